/-
  The recursive closure of flow: one walk through the residual net.
-/
import Derived.Test.YtkloaeaepjoijaaArcs
import Derived.Test.YtkloaeaepjoijaaFlow
import Derived.Test.YtkloaeaepjoijaaSmall
import Derived.Laws.EntriesVeiled
import Derived.Test.YtkloaeaepjoijaaRound
import Derived.Sort.CutIn
import Derived.Outline
set_option linter.all false
namespace Go.Proofs.Ytkloaeaepjoijaa
open Go.RowKit Go.WalkArith Go.Shelf
attribute [local go_sem] Oper.semAt_some

/-- Block sb is the row of the nodes that were seen. -/
def SeenAt (W : World) (sb : Nat) (s : Int → Bool) : Prop :=
  ∃ cs t, W.heap[sb]? = some (.cells cs t (0, 0)) ∧ cs.size = 13 ∧ ∀ i : Nat, i < 13 → cs[i]? = some (.bool (s i))

def mark (s : Int → Bool) (v : Int) : Int → Bool := fun u => if u = v then true else s u

theorem mark_self (s : Int → Bool) (v : Int) : mark s v v = true := by simp [mark]
theorem mark_mono {s : Int → Bool} {v u : Int} (h : s u = true) : mark s v u = true := by unfold mark; split <;> simp_all

theorem SeenAt.cell {W : World} {sb : Nat} {s : Int → Bool} (h : SeenAt W sb s) {i : Nat} (hi : i < 13) : W.cell? ⟨sb, i, none⟩ = some (.bool (s i)) := by
  obtain ⟨cs, t, hb, hs, hc⟩ := h
  simp [World.cell?, hb, hc i hi]
theorem SeenAt.frozen {W : World} {sb : Nat} {s : Int → Bool} (h : SeenAt W sb s) (i : Nat) : W.frozen? ⟨sb, i, none⟩ = false := by
  obtain ⟨cs, t, hb, hs, hc⟩ := h
  simp [World.frozen?, hb]
theorem SeenAt.lt {W : World} {sb : Nat} {s : Int → Bool} (h : SeenAt W sb s) : sb < W.heap.size := by
  obtain ⟨cs, t, hb, _⟩ := h
  exact (Array.getElem?_eq_some_iff.1 hb).1
theorem SeenAt.of_block {W W' : World} {sb : Nat} {s : Int → Bool} (h : SeenAt W sb s) (hb : W'.heap[sb]? = W.heap[sb]?) : SeenAt W' sb s := by
  obtain ⟨cs, t, h1, h2⟩ := h
  exact ⟨cs, t, hb.trans h1, h2⟩
theorem SeenAt.set {W : World} {sb : Nat} {s : Int → Bool} (h : SeenAt W sb s) {v : Nat} (hv : v < 13) : SeenAt (W.setCell ⟨sb, v, none⟩ (.bool true)) sb (mark s v) := by
  obtain ⟨cs, t, hb, hs, hc⟩ := h
  refine ⟨cs.setIfInBounds v (.bool true), t, ?_, by simp [hs], fun i hi => ?_⟩
  · simp [World.setCell, Array.getElem?_modify, hb]
  · rw [Array.getElem?_setIfInBounds]
    by_cases e : v = i
    · subst e; simp [hs, hv, mark]
    · rw [if_neg e, hc i hi]
      unfold mark
      rw [if_neg (by omega)]

/-- Nothing that lay has turned, but the row of the nodes and the map. -/
structure WKeep (sb b : Nat) (W W' : World) : Prop where
  os : W'.os = W.os
  tape : W'.tape = W.tape
  output : W'.output = W.output
  size : W.heap.size ≤ W'.heap.size
  block : ∀ k, k < W.heap.size → k ≠ sb → k ≠ b → W'.heap[k]? = W.heap[k]?

theorem WKeep.refl (sb b : Nat) (W : World) : WKeep sb b W W := ⟨rfl, rfl, rfl, Nat.le_refl _, fun _ _ _ _ => rfl⟩
theorem WKeep.trans {sb b : Nat} {W W' W'' : World} (h : WKeep sb b W W') (k : WKeep sb b W' W'') : WKeep sb b W W'' :=
  ⟨k.os.trans h.os, k.tape.trans h.tape, k.output.trans h.output, Nat.le_trans h.size k.size, fun i hi h1 h2 => (k.block i (Nat.lt_of_lt_of_le hi h.size) h1 h2).trans (h.block i hi h1 h2)⟩
theorem WKeep.of_below {sb b B : Nat} {W W' : World} (h : Below B W W') (hB : W.heap.size ≤ B) : WKeep sb b W W' :=
  ⟨h.os, h.tape, h.output, h.size, fun k hk _ _ => h.block k (by omega)⟩
theorem WKeep.grown {sb b B : Nat} {W0 W W' : World} {row : Option Nat} (h : WKeep sb b W0 W) (hg : W.grownBy W' row) (hr : ∀ r, row = some r → W0.heap.size ≤ r) : WKeep sb b W0 W' :=
  ⟨hg.os.trans h.os, hg.tape.trans h.tape, hg.output.trans h.output, Nat.le_trans h.size hg.size, fun k hk h1 h2 => (hg.block k (Nat.lt_of_lt_of_le hk h.size) (fun e => by have := hr k e.symm; omega)).trans (h.block k hk h1 h2)⟩

theorem MapOnly.keep {b : Nat} {W W' : World} (h : MapOnly b W W') (sb : Nat) : WKeep sb b W W' := ⟨h.os, h.tape, h.output, Nat.le_of_eq h.size.symm, fun k _ _ h2 => h.block k h2⟩

/-- What the closure captures, and what lies behind it. -/
structure WEnv (W : World) (sb wv kv g b len : Nat) (s : Int → Bool) (f : Int → Int → Int → Int) : Prop where
  seen : SeenAt W sb s
  c1 : W.cell? ⟨wv, 0, none⟩ = some (.pointer (some ⟨g, 0, none⟩))
  c2 : W.cell? ⟨kv, 0, none⟩ = some (.func (.func 118) #[] #[.pointer (some ⟨sb, 0, none⟩), .pointer (some ⟨wv, 0, none⟩), .pointer (some ⟨kv, 0, none⟩)])
  sl : ∃ A cap, W.cell? ⟨g, 0, none⟩ = some (.slice A len cap)
  mp : W.cell? ⟨g, 3, none⟩ = some (.map (some b))
  map : ArcMap W b f

section
variable {W W' : World} {sb wv kv g b len : Nat} {s : Int → Bool} {f : Int → Int → Int → Int}
theorem WEnv.lts (h : WEnv W sb wv kv g b len s f) : sb < W.heap.size ∧ wv < W.heap.size ∧ kv < W.heap.size ∧ g < W.heap.size ∧ b < W.heap.size :=
  ⟨h.seen.lt, World.block_lt_of_cell? W _ h.c1, World.block_lt_of_cell? W _ h.c2, World.block_lt_of_cell? W _ h.mp, h.map.lt⟩
theorem cell_map_none {W : World} {b : Nat} {f : Int → Int → Int → Int} (h : ArcMap W b f) (i : Nat) : W.cell? ⟨b, i, none⟩ = none := by
  obtain ⟨es, clock, hb, _⟩ := h
  simp [World.cell?, hb]
theorem WEnv.nes (h : WEnv W sb wv kv g b len s f) : (wv ≠ sb ∧ wv ≠ b) ∧ (kv ≠ sb ∧ kv ≠ b) ∧ (g ≠ sb ∧ g ≠ b) ∧ sb ≠ b := by
  have hs := h.seen.cell (i := 0) (by omega)
  have hm := cell_map_none h.map
  have h1 := h.c1
  have h2 := h.c2
  have h3 := h.mp
  have hs3 := h.seen.cell (i := 3) (by omega)
  refine ⟨⟨?_, ?_⟩, ⟨?_, ?_⟩, ⟨?_, ?_⟩, ?_⟩
  · rintro rfl; rw [hs] at h1; cases h1
  · rintro rfl; rw [hm] at h1; cases h1
  · rintro rfl; rw [hs] at h2; cases h2
  · rintro rfl; rw [hm] at h2; cases h2
  · rintro rfl; rw [hs3] at h3; cases h3
  · rintro rfl; rw [hm] at h3; cases h3
  · rintro rfl; rw [hm] at hs; cases hs
theorem WEnv.keep {s' : Int → Bool} {f' : Int → Int → Int → Int} (h : WEnv W sb wv kv g b len s f) (k : WKeep sb b W W') (hs : SeenAt W' sb s') (hm : ArcMap W' b f') : WEnv W' sb wv kv g b len s' f' := by
  obtain ⟨⟨n1, n2⟩, ⟨n3, n4⟩, ⟨n5, n6⟩, _⟩ := h.nes
  obtain ⟨_, l1, l2, l3, _⟩ := h.lts
  obtain ⟨A, cap, hsl⟩ := h.sl
  exact ⟨hs, (World.cell?_of_block (k.block _ l1 n1 n2)).trans h.c1, (World.cell?_of_block (k.block _ l2 n3 n4)).trans h.c2,
    ⟨A, cap, (World.cell?_of_block (k.block _ l3 n5 n6)).trans hsl⟩, (World.cell?_of_block (k.block _ l3 n5 n6)).trans h.mp, hm⟩
end

/-- All that can be reached from what was newly seen was seen. -/
def Closed' (len : Nat) (s s' : Int → Bool) (f : Int → Int → Int → Int) : Prop :=
  ∀ u v i : Int, 0 ≤ u → u ≤ 12 → s' u = true → s u = false → 0 ≤ v → v < 13 → -1 ≤ i → i < (len : Int) → 0 < f u v i → s' v = true

/-- How a walk ends. -/
def WPost (sb b len : Nat) (src : Nat) (most : Int) (s : Int → Bool) (f : Int → Int → Int → Int) (W : World) (e : Ending) (W' : World) : Prop :=
  WKeep sb b W W' ∧
  ((e = .returned (.int .i64 0) ∧ W'.heap[b]? = W.heap[b]? ∧ ∃ s', SeenAt W' sb s' ∧ (∀ v, s v = true → s' v = true) ∧ s' src = true ∧ s' 12 = s 12 ∧ Closed' len s s' f) ∨
   (∃ got f', e = .returned (.int .i64 got) ∧ 0 < got ∧ got ≤ most ∧ ArcMap W' b f' ∧ Aug len s src got f f'))

/-- The same, its value told. -/
def WMid (sb b len : Nat) (src : Nat) (most : Int) (s : Int → Bool) (f : Int → Int → Int → Int) (W : World) (e : Ending) (W' : World) : Prop :=
  ∃ v : Int, e = .returned (.int .i64 v) ∧ WPost sb b len src most s f W (.returned (.int .i64 v)) W'

def WStep (sb b : Nat) (W X : World) : Prop := WKeep sb b W X ∧ X.heap[b]? = W.heap[b]? ∧ X.heap[sb]? = W.heap[sb]?

theorem WPost.rebase {sb b len src : Nat} {most : Int} {s : Int → Bool} {f : Int → Int → Int → Int} {W X W' : World} {e : Ending} (h : WPost sb b len src most s f X e W') (hk : WKeep sb b W X) (hb : X.heap[b]? = W.heap[b]?) :
    WMid sb b len src most s f W e W' := by
  obtain ⟨h1, ⟨rfl, h2, h3⟩ | ⟨got, f', rfl, h4⟩⟩ := h
  · exact ⟨0, rfl, hk.trans h1, .inl ⟨rfl, h2.trans hb, h3⟩⟩
  · exact ⟨got, rfl, hk.trans h1, .inr ⟨got, f', rfl, h4⟩⟩

theorem wstep_of (sb b : Nat) (W : World) (o : Obj) (hs : sb < W.heap.size) (hb : b < W.heap.size) : WStep sb b W ((W.alloc o).drew) :=
  ⟨⟨rfl, rfl, rfl, by simp, fun k hk _ _ => Below.heap_alloc W o k hk⟩, Below.heap_alloc W o b hb, Below.heap_alloc W o sb hs⟩

theorem arcs_any (g : Nat) (src : Int) (w : World) :
    Calls Try.prog 95 #[.pointer (some ⟨g, 0, none⟩), .int .i64 src] w fun e w' => e = .returned (.func (.func 120) #[] #[.pointer (some ⟨w.heap.size, 0, none⟩), .pointer (some ⟨w.heap.size + 1, 0, none⟩)]) ∧
      w' = (w.alloc (.cells #[.pointer (some ⟨g, 0, none⟩)] 136)).alloc (.cells #[.int .i64 src] 3) := by
  go_enter Try.func95, Try.ntmps95
  go_wp2
  go_ret
  exact ⟨rfl, rfl⟩

def capOk (f : Int → Int → Int → Int) : Prop := ∀ x y z, 0 ≤ f x y z ∧ f x y z + f y x z ≤ 1000000

theorem walk_last (sb wv kv b len : Nat) (most : Int) (s : Int → Bool) (f : Int → Int → Int → Int) (W : World) (hm : 0 < most) (hmap : ArcMap W b f) (hf : capOk f) :
    Calls Try.prog 118 #[.int .i64 ((12 : Nat) : Int), .int .i64 most, .pointer (some ⟨sb, 0, none⟩), .pointer (some ⟨wv, 0, none⟩), .pointer (some ⟨kv, 0, none⟩)] W (WPost sb b len 12 most s f W) := by
  have HF := Lib.hid hf
  clear hf
  go_enter Try.func118, Try.ntmps118
  go_wp2_with fail
  refine bodyPost_ret (v := .int .i64 most) (by simp [results, Try.results118, go_sem]) rfl ?_
  have hB : Below W.heap.size W ((W.alloc (.cells #[.int .i64 most] 3)).alloc (.cells #[.int .i64 most] 3)) := ((Below.refl _ _).alloc (Nat.le_refl _) _).alloc (by simp) _
  exact ⟨WKeep.of_below hB (Nat.le_refl _), .inr ⟨most, f, rfl, hm, Int.le_refl _, hmap.of_block (hB.block _ hmap.lt), Aug.last _ _ _ _ fun x y z => (HF.out x y z).1⟩⟩

def unseen (s : Int → Bool) : Nat := ((List.range 13).filter fun v => !s ((v : Nat) : Int)).length

theorem filter_length_le {α : Type} {p q : α → Bool} (l : List α) (h : ∀ x ∈ l, p x = true → q x = true) : (l.filter p).length ≤ (l.filter q).length := by
  induction l with
  | nil => simp
  | cons a r ih =>
    have ih' := ih fun x hx => h x (List.mem_cons_of_mem _ hx)
    simp only [List.filter_cons]
    cases hp : p a with
    | false => simp only [Bool.false_eq_true, if_false]; split <;> simp <;> omega
    | true => rw [h a (by simp) hp]; simp; omega

theorem filter_length_lt {α : Type} {p q : α → Bool} (l : List α) (h : ∀ x ∈ l, p x = true → q x = true) {a : α} (ha : a ∈ l) (hp : p a = false) (hq : q a = true) : (l.filter p).length < (l.filter q).length := by
  induction l with
  | nil => cases ha
  | cons c r ih =>
    simp only [List.filter_cons]
    rcases List.mem_cons.1 ha with rfl | ha'
    · rw [hp, hq]
      have := filter_length_le r fun x hx => h x (List.mem_cons_of_mem _ hx)
      simp; omega
    · have ih' := ih (fun x hx => h x (List.mem_cons_of_mem _ hx)) ha'
      cases hpc : p c with
      | false => simp only [Bool.false_eq_true, if_false]; split <;> simp <;> omega
      | true => rw [h c (by simp) hpc]; simp; omega

theorem unseen_lt {s s' : Int → Bool} (h : ∀ v, s v = true → s' v = true) {v : Nat} (hv : v < 13) (h1 : s v = false) (h2 : s' v = true) : unseen s' < unseen s := by
  refine filter_length_lt _ (fun x _ hx => ?_) (a := v) (List.mem_range.2 hv) (by simp [h2]) (by simp [h1])
  cases e : s x with
  | false => rfl
  | true => rw [h _ e] at hx; cases hx

/-- Between two rounds of the walk's loop. -/
def WInv (sb b len : Nat) (src : Nat) (s : Int → Bool) (f : Int → Int → Int → Int) (W0 : World) (pre : List (Arc len src f)) (W : World) : Prop :=
  WKeep sb b W0 W ∧ W.heap[b]? = W0.heap[b]? ∧ ∃ sc, SeenAt W sb sc ∧ (∀ v, s v = true → sc v = true) ∧ sc src = true ∧ sc 12 = s 12 ∧ Closed' len (mark s src) sc f ∧ ∀ x ∈ pre, sc x.1.1 = true

theorem WInv.own {sb b len src : Nat} {s : Int → Bool} {f : Int → Int → Int → Int} {W0 : World} (hb : b < W0.heap.size) (hs : sb < W0.heap.size) :
    OwnFrom W0.heap.size (WInv sb b len src s f W0) := by
  intro pre W W' row hi hg hr
  obtain ⟨hk, hm, sc, hsc, h1⟩ := hi
  have hge : ∀ r, row = some r → W0.heap.size ≤ r := fun r e => (hr r e).1
  have hbl : ∀ k, k < W0.heap.size → W'.heap[k]? = W.heap[k]? := fun k hk' => hg.block k (Nat.lt_of_lt_of_le hk' hk.size) (fun e => by have := hge k e.symm; omega)
  exact ⟨hk.grown (B := 0) hg hge, (hbl b hb).trans hm, sc, hsc.of_block (hbl sb hs), h1⟩

/-- Where the walk came through. -/
def WOut (sb b len : Nat) (src : Nat) (most : Int) (s : Int → Bool) (f : Int → Int → Int → Int) (w : World) (rb : Nat) (W : World) : Prop :=
  WKeep sb b w W ∧ ∃ got f', Boxed W rb 3 (.int .i64 got) ∧ 0 < got ∧ got ≤ most ∧ ArcMap W b f' ∧ Aug len s src got f f'

theorem WOut.own {β : Type} {sb b len src : Nat} {most : Int} {s : Int → Bool} {f : Int → Int → Int → Int} {w : World} {rb B : Nat} (hb : b < w.heap.size) (hB : w.heap.size ≤ B) :
    OwnFrom B (fun (_ : β) W => WOut sb b len src most s f w rb W) := by
  intro pre W W' row hi hg hr
  obtain ⟨hk, got, f', h1, h2, h3, h4, h5⟩ := hi
  have hge : ∀ r, row = some r → w.heap.size ≤ r := fun r e => by have := (hr r e).1; omega
  have hbl : ∀ k, k < w.heap.size → W'.heap[k]? = W.heap[k]? := fun k hk' => hg.block k (Nat.lt_of_lt_of_le hk' hk.size) (fun e => by have := hge k e.symm; omega)
  exact ⟨hk.grown (B := 0) hg hge, got, f', boxed_own rb 3 (fun (_ : Unit) => Value.int .i64 got) () W W' row h1 hg (fun r e => (hr r e).2), h2, h3, h4.of_block (hbl b hb), h5⟩

set_option maxRecDepth 100000 in
set_option maxHeartbeats 4000000 in
theorem walk_any (sb wv kv g b len : Nat) (hlen : len ≤ 100) : ∀ (k : Nat) (src : Nat) (most : Int) (s : Int → Bool) (f : Int → Int → Int → Int) (w : World), unseen s ≤ k → src ≤ 12 → s src = false → 0 < most → most ≤ 2000000000 →
    capOk f → WEnv w sb wv kv g b len s f →
    Calls Try.prog 118 #[.int .i64 (src : Int), .int .i64 most, .pointer (some ⟨sb, 0, none⟩), .pointer (some ⟨wv, 0, none⟩), .pointer (some ⟨kv, 0, none⟩)] w (WPost sb b len src most s f w) := by
  intro k
  induction k with
  | zero =>
    intro src most s f w hu hsrc hss
    have := unseen_lt (s := s) (s' := mark s src) (fun v h => mark_mono h) (by omega) hss (mark_self _ _)
    omega
  | succ k ih =>
    intro src most s f w hu hsrc hss hm0 hm1 hf hE
    by_cases hlast : src = 12
    · subst hlast
      exact walk_last sb wv kv b len most s f w hm0 hE.map hf
    · have IH := Lib.hid ih
      clear ih
      have HF := Lib.hid hf
      clear hf
      have HU := Lib.hid hu
      clear hu
      have HS := Lib.hid hss
      clear hss
      have hsb : ((src : Int) == 12) = false := by simp; omega
      have lts := hE.lts
      have nes := hE.nes
      obtain ⟨l1, l2, l3, l4, l5⟩ := lts
      have c1 := hE.c1
      have cs := hE.seen.cell (i := src) (by omega)
      have cf := hE.seen.frozen src
      refine callsIn_wide (n := 1) |>.1 ?_
      refine callsIn_of_wp_marks Try.func118 rfl trivial ?_
      simp only [Try.ntmps118, List.size_toArray, List.length_cons, List.length_nil, Nat.reduceAdd, Nat.reduceSub, Array.replicate_succ, Array.replicate_zero, List.push_toArray, List.append_toArray, List.nil_append, List.cons_append]
      gi_wp2_with (refine ⟨trivial, ?_⟩; gi_at_call 95; refine (callsIn_wide.2 (arcs_any _ _ _)).mono ?_; rintro e w' ⟨rfl, rfl⟩)
      have bM := ((((Boxed.new (w.setCell ⟨sb, src, none⟩ (.bool true)) 3 (.int .i64 most)).alloc (.cells #[.int .i64 0] 3)).alloc (.cells #[.pointer (some ⟨g, 0, none⟩)] 136)).alloc (.cells #[.int .i64 (src : Int)] 3))
      have bR := (((Boxed.new ((w.setCell ⟨sb, src, none⟩ (.bool true)).alloc (.cells #[.int .i64 most] 3)) 3 (.int .i64 0)).alloc (.cells #[.pointer (some ⟨g, 0, none⟩)] 136)).alloc (.cells #[.int .i64 (src : Int)] 3))
      have bW := ((Boxed.new (((w.setCell ⟨sb, src, none⟩ (.bool true)).alloc (.cells #[.int .i64 most] 3)).alloc (.cells #[.int .i64 0] 3)) 136 (.pointer (some ⟨g, 0, none⟩))).alloc (.cells #[.int .i64 (src : Int)] 3))
      have bF := (Boxed.new ((((w.setCell ⟨sb, src, none⟩ (.bool true)).alloc (.cells #[.int .i64 most] 3)).alloc (.cells #[.int .i64 0] 3)).alloc (.cells #[.pointer (some ⟨g, 0, none⟩)] 136)) 3 (.int .i64 (src : Int)))
      have hszs : (w.setCell ⟨sb, src, none⟩ (.bool true)).heap.size = w.heap.size := by simp
      simp only [World.size_alloc, hszs] at bM bR bW bF
      have hBel : Below w.heap.size (w.setCell ⟨sb, src, none⟩ (.bool true)) (((((w.setCell ⟨sb, src, none⟩ (.bool true)).alloc (.cells #[.int .i64 most] 3)).alloc (.cells #[.int .i64 0] 3)).alloc (.cells #[.pointer (some ⟨g, 0, none⟩)] 136)).alloc (.cells #[.int .i64 (src : Int)] 3)) :=
        ((((Below.refl _ _).alloc (by simp) _).alloc (by simp) _).alloc (by simp; omega) _).alloc (by simp; omega) _
      have hsz : (((((w.setCell ⟨sb, src, none⟩ (.bool true)).alloc (.cells #[.int .i64 most] 3)).alloc (.cells #[.int .i64 0] 3)).alloc (.cells #[.pointer (some ⟨g, 0, none⟩)] 136)).alloc (.cells #[.int .i64 (src : Int)] 3)).heap.size = w.heap.size + 4 := by simp
      obtain ⟨W0, hW0⟩ : ∃ W0, ((((w.setCell ⟨sb, src, none⟩ (.bool true)).alloc (.cells #[.int .i64 most] 3)).alloc (.cells #[.int .i64 0] 3)).alloc (.cells #[.pointer (some ⟨g, 0, none⟩)] 136)).alloc (.cells #[.int .i64 (src : Int)] 3) = W0 := ⟨_, rfl⟩
      rw [hW0] at bM bR bW bF hBel hsz ⊢
      clear hW0
      have hK0 : WKeep sb b w (w.setCell ⟨sb, src, none⟩ (.bool true)) := ⟨rfl, rfl, rfl, by simp, fun k hk h1 h2 => Below.heap_setCell _ _ _ _ h1⟩
      have hS1 : SeenAt W0 sb (mark s src) := (hE.seen.set (v := src) (by omega)).of_block (hBel.block _ l1)
      have hb0 : W0.heap[b]? = w.heap[b]? := (hBel.block _ l5).trans (Below.heap_setCell _ _ _ _ (fun h => nes.2.2.2 h.symm))
      have hM1 : ArcMap W0 b f := hE.map.of_block hb0
      have hKW : WKeep sb b w W0 := hK0.trans (WKeep.of_below hBel (by simp))
      have hE0 : WEnv W0 sb wv kv g b len (mark s src) f := hE.keep hKW hS1 hM1
      clear hBel hszs hK0 cs cf c1
      have hEA : ArcsEnv W0 (w.heap.size + 1 + 1) (w.heap.size + 1 + 1 + 1) g b len src f := ⟨bW.cell, bF.cell, hE0.sl, hE0.mp, hM1⟩
      have lts0 := hE0.lts
      refine wpIn_rangeFunc_ownH rfl (by omega) (gf := 120) (lb := #[.pointer (some ⟨w.heap.size + 1 + 1, 0, none⟩), .pointer (some ⟨w.heap.size + 1 + 1 + 1, 0, none⟩)]) rfl trivial (enters_of Try.func120 (by kernel_rfl) rfl)
        (arcs_stops (1 - 1) (w.heap.size + 1 + 1) (w.heap.size + 1 + 1 + 1) g b len src f W0 hlen (by omega) (by omega) hEA) KeepB.trans
        (fun W l o o' hl h _ _ => ?kb) (Below.refl _ _) (fun _ => rfl)
        (WInv sb b len src s f W0)
        (fun c _ W => c = .ret ∧ WOut sb b len src most s f w (w.heap.size + 1) W)
        (WInv.own lts0.2.2.2.2 lts0.1)
        (fun c s W W' row hs hg hr => ⟨hs.1, WOut.own (β := Unit) l5 (by omega) () W W' row hs.2 hg hr⟩)
        ?start
        (fun x a' W => ∃ Bx, w.heap.size + 4 ≤ Bx ∧ W.heap[Bx]? = some (.cells #[.int .i64 (src : Int), .int .i64 x.1.1, .int .i64 x.1.2] 112 (0, 0)) ∧ a' = { tmps := #[.int .i64 (src : Int), .int .i64 most, .pointer (some ⟨sb, 0, none⟩), .pointer (some ⟨wv, 0, none⟩), .pointer (some ⟨kv, 0, none⟩), undef, .pointer (some ⟨w.heap.size, 0, none⟩), .pointer (some ⟨w.heap.size + 1, 0, none⟩), .pointer (some ⟨Bx, 0, none⟩), .int .i64 (f src x.1.1 x.1.2), undef, .int .i64 (src : Int), .bool false, undef, .int .i64 (src : Int), .pointer (some ⟨sb, src, none⟩), .pointer (some ⟨g, 0, none⟩), .int .i64 (src : Int), .func (.func 120) #[] #[.pointer (some ⟨w.heap.size + 1 + 1, 0, none⟩), .pointer (some ⟨w.heap.size + 1 + 1 + 1, 0, none⟩)], .agg #[.int .i64 (src : Int), .int .i64 x.1.1, .int .i64 x.1.2], .int .i64 (f src x.1.1 x.1.2), undef, undef, undef, undef, undef, undef, undef, undef, undef, undef, undef, undef, undef, undef, undef, undef, undef, undef, undef], defers := [] })
        ?hAx ?assign ?body ?done ?stop
      case kb =>
        have hne : ∀ k, k < w.heap.size + 4 → (W.putObj l o').heap[k]? = W.heap[k]? := fun k hk => World.putObj_heap_other (by omega)
        exact ⟨by simp [World.putObj], hne _ (by omega), hne _ (by omega), hne _ (by omega), hne _ (by omega)⟩
      case start =>
        exact ⟨WKeep.refl _ _ _, rfl, mark s src, hS1, fun v h => mark_mono h, mark_self _ _, by unfold mark; rw [if_neg (by omega)], (fun u v i _ _ h1 h2 => by rw [h1] at h2; cases h2), (fun x hx => by cases hx)⟩
      case hAx =>
        intro x a' _ X Y row hs hg hr
        obtain ⟨Bx, h1, h2, h3⟩ := hs
        refine ⟨Bx, h1, (hg.block Bx (Array.getElem?_eq_some_iff.1 h2).1 (fun e => ?_)).trans h2, h3⟩
        obtain ⟨_, o, ho, hc⟩ := hr Bx e.symm
        rw [h2] at ho
        cases ho
        cases hc
      case assign =>
        rintro l pre x W K hi hK
        gi_wp2
        have hg1 : W.grownBy (W.alloc (.cells #[.int .i64 (src : Int), .int .i64 x.1.1, .int .i64 x.1.2] 112)) none := World.grownBy_alloc W _ none
        have hsW := hi.1.size
        refine hK _ _ ((KeepsOthers.alloc _ _).from _) ⟨hg1.size, hg1.block _ (by omega) (by simp), hg1.block _ (by omega) (by simp), hg1.block _ (by omega) (by simp), hg1.block _ (by omega) (by simp)⟩
          (WInv.own lts0.2.2.2.2 lts0.1 _ _ _ none hi hg1 (by simp)) ⟨W.heap.size, by omega, heap_alloc_new W _, rfl⟩
      case body =>
        rintro l pre ⟨⟨to', i'⟩, hx0, hx1, hx2, hx3, hx4⟩ a' W hl hr hi ⟨Bx, hBx, bX, rfl⟩ hlenN
        dsimp only at hx0 hx1 hx2 hx3 hx4 bX ⊢
        obtain ⟨hKW1, hmW, sc, hsc, hs1, hs2, hs3, hs4, hs5⟩ := hi
        obtain ⟨to, rfl⟩ := Int.eq_ofNat_of_zero_le hx0
        have cx0 : W.cell? ⟨Bx, 0, none⟩ = some (.int .i64 (src : Int)) := by simp [World.cell?, bX]
        have cx1 : W.cell? ⟨Bx, 1, none⟩ = some (.int .i64 (to : Int)) := by simp [World.cell?, bX]
        have cx2 : W.cell? ⟨Bx, 2, none⟩ = some (.int .i64 i') := by simp [World.cell?, bX]
        have cseen := hsc.cell (i := to) (by omega)
        have H5 := Lib.hid hs5
        clear hs5
        have H1 := Lib.hid hs1
        clear hs1
        cases hsee : sc to with
        | true =>
          rw [hsee] at cseen
          gi_wp2
          exact ⟨KeepsFrom.refl _ _, KeepB.refl _ _ _ _ _, hKW1, hmW, sc, hsc, H1.out, hs2, hs3, hs4, fun y hy => by
            rcases List.mem_append.1 hy with h | h
            · exact H5.out y h
            · rw [List.mem_singleton.1 h]; exact hsee⟩
        | false =>
          rw [hsee] at cseen
          have hEW : WEnv W sb wv kv g b len sc f := hE0.keep hKW1 hsc (hM1.of_block hmW)
          have ck := hEW.c2
          have cg := hEW.c1
          have cm : W.cell? ⟨w.heap.size, 0, none⟩ = some (.int .i64 most) := (World.cell?_of_block (a := ⟨w.heap.size, 0, none⟩) (hKW1.block w.heap.size (by omega) (by omega) (by omega))).trans bM.cell
          have hcall : ∀ X, WStep sb b W X → Calls Try.prog 118 #[.int .i64 (to : Int), .int .i64 (min most (f src to i')), .pointer (some ⟨sb, 0, none⟩), .pointer (some ⟨wv, 0, none⟩), .pointer (some ⟨kv, 0, none⟩)] X (WMid sb b len to (min most (f src to i')) sc f W) := by
            intro X hX
            have hu : unseen sc ≤ k := by
              have := unseen_lt (s := s) (s' := sc) H1.out (v := src) (by omega) HS.out hs2
              have := HU.out
              omega
            refine (IH.out to (min most (f src to i')) sc f X hu (by omega) hsee (by omega) (by omega) HF.out (hEW.keep hX.1 (hsc.of_block hX.2.2) (hEW.map.of_block hX.2.1))).mono ?_
            intro e w' hp
            exact hp.rebase hX.1 hX.2.1
          have hszW := hKW1.size
          have hl1 : Bx < W.heap.size := (Array.getElem?_eq_some_iff.1 bX).1
          have hl2 : kv < W.heap.size := by omega
          have hl3 : w.heap.size < W.heap.size := by omega
          have HC := Lib.hid hcall
          clear hcall
          gi_wp2_with fail
          gi_cut [10] from 25 (fun s10 wc => ∃ v : Int, s10 = .int .i64 v ∧ WPost sb b len to (min most (f src to i')) sc f W (.returned (.int .i64 v)) wc)
          case first =>
            refine wpIn_region_round (S := fun X => X.cell? ⟨kv, 0, none⟩ = some (.func (.func 118) #[] #[.pointer (some ⟨sb, 0, none⟩), .pointer (some ⟨wv, 0, none⟩), .pointer (some ⟨kv, 0, none⟩)]) ∧ X.cell? ⟨Bx, 1, none⟩ = some (.int .i64 (to : Int)) ∧ X.cell? ⟨w.heap.size, 0, none⟩ = some (.int .i64 most)) (by kernel_rfl) (noDefer_spec (by rfl)) (fun ⟨_, _, h⟩ => h) ⟨by simp [ck], by simp [cx1], by simp [cm]⟩ (fun hS => ?_)
            refine wpAnyH_take (i := 0) (oi := { dst := some 25, op := Op.load 146 (Operand.tmp 4), type := 146, pos := "angle.go:183", after := #[], guard := none }) (v := ?_) rfl (by kernel_rfl) (by kernel_rfl) (by kernel_rfl) (fun _ _ _ h => h) (Or.inl ⟨by rfl, ?_⟩) hS ?_
            rotate_left
            · intro X hX
              try dsimp only at hX
              obtain ⟨x1, x2, x3⟩ := hX
              go_simp
              try with_reducible rfl
            simp only [Act.put, List.setIfInBounds_toArray, List.set_cons_zero, List.set_cons_succ]
            refine wpAnyH_take (i := 1) (oi := { dst := some 26, op := Op.fieldAddr 112 (Operand.tmp 8) 1, type := 0, pos := "angle.go:183", after := #[], guard := none }) (v := ?_) rfl (by kernel_rfl) (by kernel_rfl) (by kernel_rfl) (fun _ _ _ h => h) (Or.inl ⟨by rfl, ?_⟩) hS ?_
            rotate_left
            · intro X hX
              try dsimp only at hX
              obtain ⟨x1, x2, x3⟩ := hX
              go_simp
              try with_reducible rfl
            simp only [Act.put, List.setIfInBounds_toArray, List.set_cons_zero, List.set_cons_succ]
            refine wpAnyH_take (i := 2) (oi := { dst := some 27, op := Op.load 3 (Operand.tmp 26), type := 3, pos := "angle.go:183", after := #[{ on := 1, ground := Ground.data }], guard := none }) (v := ?_) rfl (by kernel_rfl) (by kernel_rfl) (by kernel_rfl) (fun _ _ _ h => h) (Or.inl ⟨by rfl, ?_⟩) hS ?_
            rotate_left
            · intro X hX
              try dsimp only at hX
              obtain ⟨x1, x2, x3⟩ := hX
              go_simp
              try with_reducible rfl
            simp only [Act.put, List.setIfInBounds_toArray, List.set_cons_zero, List.set_cons_succ]
            refine wpAnyH_take (i := 3) (oi := { dst := some 28, op := Op.load 3 (Operand.tmp 6), type := 3, pos := "angle.go:183", after := #[], guard := none }) (v := ?_) rfl (by kernel_rfl) (by kernel_rfl) (by kernel_rfl) (fun _ _ _ h => h) (Or.inl ⟨by rfl, ?_⟩) hS ?_
            rotate_left
            · intro X hX
              try dsimp only at hX
              obtain ⟨x1, x2, x3⟩ := hX
              go_simp
              try with_reducible rfl
            simp only [Act.put, List.setIfInBounds_toArray, List.set_cons_zero, List.set_cons_succ]
            refine wpAnyH_take (i := 4) (oi := { dst := some 29, op := Op.move (Operand.tmp 9), type := 3, pos := "angle.go:183", after := #[], guard := none }) (v := ?_) rfl (by kernel_rfl) (by kernel_rfl) (by kernel_rfl) (fun _ _ _ h => h) (Or.inl ⟨by rfl, ?_⟩) hS ?_
            rotate_left
            · intro X hX
              try dsimp only at hX
              obtain ⟨x1, x2, x3⟩ := hX
              go_simp
              try with_reducible rfl
            simp only [Act.put, List.setIfInBounds_toArray, List.set_cons_zero, List.set_cons_succ]
            refine wpAnyH_ready (rs := [5]) (by kernel_rfl) (by simp) (AllReadyH.cons (o := { dst := some 30, op := Op.buildSlice 25 2 #[(0, Operand.tmp 28), (1, Operand.tmp 29)], type := 25, pos := "angle.go:183", after := #[{ on := 3, ground := Ground.data }, { on := 4, ground := Ground.data }], guard := none }) rfl (fun K hK => ?_) AllReadyH.nil)
            go_simp
            refine hK.out _ _ ⟨by rw [World.cell?_drew, World.cell?_alloc_lt _ _ _ hl2]; exact ck, by rw [World.cell?_drew, World.cell?_alloc_lt _ _ _ hl1]; exact cx1, by rw [World.cell?_drew, World.cell?_alloc_lt _ _ _ hl3]; exact cm⟩ (fun hS' => ?_)
            clear hS hK K
            refine wpAnyH_ready (rs := [6]) (by kernel_rfl) (by simp) (AllReadyH.cons (o := { dst := some 31, op := Op.call { callee := Callee.value (Operand.func 96), args := #[Operand.tmp 30], argTypes := #[25] }, type := 3, pos := "angle.go:183", after := #[{ on := 5, ground := Ground.data }], guard := none }) rfl (fun K hK => ?_) AllReadyH.nil)
            go_simp
            refine (smallest_two _ most (f src to i') _ (by simp) (by simp)).mono ?_
            rintro e w' ⟨rfl, rfl⟩
            go_wp2_with fail
            refine hK.out _ _ hS' (fun hS => ?_)
            clear hS' hK K
            refine wpAnyH_ready (rs := [7]) (by kernel_rfl) (by simp) (AllReadyH.cons (o := { dst := some 32, op := Op.call { callee := Callee.value (Operand.tmp 25), args := #[Operand.tmp 27, Operand.tmp 31], argTypes := #[3, 3] }, type := 3, pos := "angle.go:183", after := #[{ on := 0, ground := Ground.data }, { on := 2, ground := Ground.data }, { on := 6, ground := Ground.data }, { on := 6, ground := Ground.chain }], guard := none }) rfl (fun K hK => ?_) AllReadyH.nil)
            go_simp
            refine (HC.out _ (by exact wstep_of _ _ _ _ (by omega) (by omega))).mono ?_
            rintro e w' ⟨v, rfl, hp⟩
            go_wp2_with fail
            have hkX := hp.1
            have hS2 : w'.cell? ⟨kv, 0, none⟩ = some (.func (.func 118) #[] #[.pointer (some ⟨sb, 0, none⟩), .pointer (some ⟨wv, 0, none⟩), .pointer (some ⟨kv, 0, none⟩)]) ∧ w'.cell? ⟨Bx, 1, none⟩ = some (.int .i64 (to : Int)) ∧ w'.cell? ⟨w.heap.size, 0, none⟩ = some (.int .i64 most) :=
              ⟨(World.cell?_of_block (a := ⟨kv, 0, none⟩) (hkX.block kv (by omega) (by omega) (by omega))).trans ck, (World.cell?_of_block (a := ⟨Bx, 1, none⟩) (hkX.block Bx (by omega) (by omega) (by omega))).trans cx1, (World.cell?_of_block (a := ⟨w.heap.size, 0, none⟩) (hkX.block w.heap.size (by omega) (by omega) (by omega))).trans cm⟩
            refine hK.out _ _ hS2 (fun hS' => ?_)
            clear hS hK K hkX
            refine wpAnyH_ready (rs := [8]) (by kernel_rfl) (by simp) (AllReadyH.cons (o := { dst := some 10, op := Op.assign (Operand.tmp 32), type := 3, pos := "angle.go:183", after := #[{ on := 7, ground := Ground.data }, { on := 7, ground := Ground.chain }, { on := 0, ground := Ground.phase }, { on := 1, ground := Ground.phase }, { on := 2, ground := Ground.phase }, { on := 3, ground := Ground.phase }, { on := 4, ground := Ground.phase }, { on := 5, ground := Ground.phase }, { on := 6, ground := Ground.phase }, { on := 7, ground := Ground.phase }], guard := none }) rfl (fun K hK => ?_) AllReadyH.nil)
            go_simp
            refine hK.out _ _ hS2 (fun hS => ?_)
            clear hS hK K hS' hS2
            refine wpAnyH_done (by kernel_rfl) ?_ _
            gi_wp2
            gi_meet
            case rel => exact ⟨v, rfl, hp⟩
          case rest =>
            obtain ⟨v, rfl, hk, hcase⟩ := hcut
            have hszC := hk.size
            have hkf : KeepsFrom W0.heap.size W wc := ⟨hk.size, fun j o hj ho _ => (hk.block j (Array.getElem?_eq_some_iff.1 ho).1 (by omega) (by omega)).trans ho⟩
            rcases hcase with ⟨hv, hbm, s', hs', hm1, hm2, hm3, hm4⟩ | ⟨got, f', hv, hg0, hg1, hmap', hA⟩
            · obtain rfl : v = 0 := by simpa using hv
              clear hv
              have HM1 := Lib.hid hm1
              clear hm1
              have HM4 := Lib.hid hm4
              clear hm4
              have HS4 := Lib.hid hs4
              clear hs4
              gi_wp2
              refine ⟨hkf, ⟨hk.size, ?_, ?_, ?_, hbm⟩, hKW1.trans hk, hbm.trans hmW, s', hs', fun u hu => HM1.out _ (H1.out u hu), HM1.out _ hs2, hm3.trans hs3, ?_, ?_⟩
              · exact hk.block _ (by omega) (by omega) (by omega)
              · exact hk.block _ (by omega) (by omega) (by omega)
              · exact hk.block _ (by omega) (by omega) (by omega)
              · intro u y i h1 h2 h3 h4 h5 h6 h7 h8 h9
                cases hu : sc u with
                | true => exact HM1.out _ (HS4.out u y i h1 h2 hu h4 h5 h6 h7 h8 h9)
                | false => exact HM4.out u y i h1 h2 h3 hu h5 h6 h7 h8 h9
              · intro y hy
                rcases List.mem_append.1 hy with h | h
                · exact HM1.out _ (H5.out y h)
                · rw [List.mem_singleton.1 h]; exact hm2
            · obtain rfl : v = got := by simpa using hv
              clear hv
              have cw : wc.cell? ⟨wv, 0, none⟩ = some (.pointer (some ⟨g, 0, none⟩)) := (World.cell?_of_block (a := ⟨wv, 0, none⟩) (hk.block wv (by omega) (by omega) (by omega))).trans cg
              have cmp : wc.cell? ⟨g, 3, none⟩ = some (.map (some b)) := (World.cell?_of_block (a := ⟨g, 3, none⟩) (hk.block g (by omega) (by omega) (by omega))).trans hEW.mp
              have hBk := hk.block Bx (by omega) (by omega) (by omega)
              have cy0 : wc.cell? ⟨Bx, 0, none⟩ = some (.int .i64 (src : Int)) := (World.cell?_of_block (a := ⟨Bx, 0, none⟩) hBk).trans cx0
              have cy1 : wc.cell? ⟨Bx, 1, none⟩ = some (.int .i64 (to : Int)) := (World.cell?_of_block (a := ⟨Bx, 1, none⟩) hBk).trans cx1
              have cy2 : wc.cell? ⟨Bx, 2, none⟩ = some (.int .i64 i') := (World.cell?_of_block (a := ⟨Bx, 2, none⟩) hBk).trans cx2
              have bRc : Boxed wc (w.heap.size + 1) 3 (.int .i64 0) := (hk.block (w.heap.size + 1) (by omega) (by omega) (by omega)).trans ((hKW1.block (w.heap.size + 1) (by omega) (by omega) (by omega)).trans bR)
              have hf1 := hA.nn src to i'
              have hf2 := hA.nn to src i'
              have hf3 := hA.pair src to i'
              have hf4 := HF.out src to i'
              have HP := Lib.hid (push_any g b src to i' v f' wc (by omega) (by omega) (by omega) (by omega) (by omega) (by omega) (by omega) (by omega) cmp hmap' (by omega) (by omega) (by omega) (by omega))
              have hvg : v ≤ f src to i' := by omega
              have hvm : v ≤ most := by omega
              have hvb : decide (0 < v) = true := by simpa using hg0
              have HA := Lib.hid hA
              clear hA hf1 hf2 hf3 hf4 cmp
              have hrl : w.heap.size + 1 < wc.heap.size := bRc.lt
              gi_wp2_with fail
              refine ⟨trivial, rfl, ?_⟩
              refine (CallsIn.inRound l (callsIn_wide.2 HP.out)).mono ?_
              rintro e w3 ⟨rfl, hm3, ho3⟩
              have bR3 : Boxed w3 (w.heap.size + 1) 3 (.int .i64 0) := (ho3.block _ (by omega)).trans ((Below.heap_alloc _ _ _ hrl).trans bRc)
              have cR3 : w3.cell? ⟨w.heap.size + 1, 0, none⟩ = some (.int .i64 0) := bR3.cell
              have fR3 : w3.frozen? ⟨w.heap.size + 1, 0, none⟩ = false := bR3.frozen
              have hk3 : WKeep sb b W w3 := hk.trans (WKeep.trans (WKeep.of_below ((Below.refl _ _).alloc (Nat.le_refl _) _) (Nat.le_refl _)) (ho3.keep sb))
              have hs3z := hk3.size
              gi_wp2
              have hsame : ∀ j, j ≠ w.heap.size + 1 → (w3.setCell ⟨w.heap.size + 1, 0, none⟩ (.int .i64 v)).heap[j]? = w3.heap[j]? := fun j hj => Below.heap_setCell _ _ _ _ hj
              refine ⟨⟨by simpa using hs3z, fun j o hj ho hc => ?_⟩, rfl, ?_, v, pushF f' src to i' v, bR3.set _, hg0, hvm, hm3.of_block (hsame b (by omega)), ?_⟩
              · have hne : j ≠ w.heap.size + 1 := by
                  rintro rfl
                  have := (hKW1.block (w.heap.size + 1) (by omega) (by omega) (by omega)).trans bR
                  rw [this] at ho
                  cases ho
                  cases hc
                exact (hsame j hne).trans ((hk3.block j (Array.getElem?_eq_some_iff.1 ho).1 (by omega) (by omega)).trans ho)
              · have hkw := (hKW.trans hKW1).trans hk3
                exact ⟨hkw.os, hkw.tape, hkw.output, by simpa using hkw.size, fun j hj h1 h2 => (hsame j (by omega)).trans (hkw.block j hj h1 h2)⟩
              · exact HA.out.push (fun x y z => (HF.out x y z).1) H1.out hs2 HS.out hsee (by omega) (by omega) (by omega) (by omega) hx2 hx3 (by omega) hvg
      case done =>
        rintro D xs W hD hAll ⟨hk1, hm1, sc, hsc, hs1, hs2, hs3, hs4, hs5⟩ hKD
        have bR1 : Boxed W (w.heap.size + 1) 3 (.int .i64 0) := (hk1.block (w.heap.size + 1) (by omega) (by omega) (by omega)).trans bR
        have cR := bR1.cell
        have fR := bR1.frozen
        have H1 := Lib.hid hs1
        have H5 := Lib.hid hs5
        have HAll := Lib.hid hAll
        have H4 := Lib.hid hs4
        clear hs1 hs5 hAll hs4
        gi_wp2
        have hsame : ∀ j, j ≠ w.heap.size + 1 → (W.setCell ⟨w.heap.size + 1, 0, none⟩ (.int .i64 0)).heap[j]? = W.heap[j]? := fun j hj => Below.heap_setCell _ _ _ _ hj
        have hKD' := (hsame D (by omega)).trans hKD
        have bR2 := bR1.set (.int .i64 0)
        refine ⟨by simp, .inl ⟨_, _, rfl, run_takeDeferred hKD', ?_⟩⟩
        have hput : ∀ j, j ≠ D → ((W.setCell ⟨w.heap.size + 1, 0, none⟩ (.int .i64 0)).putObj D (.deferred none)).heap[j]? = (W.setCell ⟨w.heap.size + 1, 0, none⟩ (.int .i64 0)).heap[j]? := fun j hj => World.putObj_heap_other hj
        have cR9 : ((W.setCell ⟨w.heap.size + 1, 0, none⟩ (.int .i64 0)).putObj D (.deferred none)).cell? ⟨w.heap.size + 1, 0, none⟩ = some (.int .i64 0) := (World.cell?_of_block (a := ⟨w.heap.size + 1, 0, none⟩) (hput (w.heap.size + 1) (by omega))).trans bR2.cell
        have hall : ∀ j, j < w.heap.size → ((W.setCell ⟨w.heap.size + 1, 0, none⟩ (.int .i64 0)).putObj D (.deferred none)).heap[j]? = W.heap[j]? := fun j hj => (hput j (by omega)).trans (hsame j (by omega))
        have hsz9 : ((W.setCell ⟨w.heap.size + 1, 0, none⟩ (.int .i64 0)).putObj D (.deferred none)).heap.size = W.heap.size := by simp [World.putObj]
        have hos9 : ((W.setCell ⟨w.heap.size + 1, 0, none⟩ (.int .i64 0)).putObj D (.deferred none)).os = W.os ∧ ((W.setCell ⟨w.heap.size + 1, 0, none⟩ (.int .i64 0)).putObj D (.deferred none)).tape = W.tape ∧ ((W.setCell ⟨w.heap.size + 1, 0, none⟩ (.int .i64 0)).putObj D (.deferred none)).output = W.output := ⟨rfl, rfl, rfl⟩
        generalize (W.setCell ⟨w.heap.size + 1, 0, none⟩ (.int .i64 0)).putObj D (.deferred none) = W9 at *
        have hkw := hKW.trans hk1
        refine ⟨.int .i64 0, by simp [results, Try.results118, go_sem, cR9], ⟨hos9.1.trans hkw.os, hos9.2.1.trans hkw.tape, hos9.2.2.trans hkw.output, by rw [hsz9]; exact hkw.size, fun j hj h1 h2 => (hall j hj).trans (hkw.block j hj h1 h2)⟩, .inl ⟨rfl, ((hall b l5).trans hm1).trans hb0, sc, hsc.of_block (hall sb l1), H1.out, hs2, hs3, ?_⟩⟩
        intro u v i h1 h2 h3 h4 h5 h6 h7 h8 h9
        by_cases hus : u = src
        · subst hus
          exact H5.out ⟨(v, i), h5, h6, h7, h8, h9⟩ (HAll.out ⟨(v, i), h5, h6, h7, h8, h9⟩ (.inl h6))
        · exact H4.out u v i h1 h2 h3 (by unfold mark; rw [if_neg hus]; exact h4) h5 h6 h7 h8 h9
      case stop =>
        rintro D c xs W hD _ ⟨rfl, hO⟩ hKD
        gi_wp2
        refine ⟨by simp, .inl ⟨_, _, rfl, run_takeDeferred hKD, ?_⟩⟩
        obtain ⟨hkO, got, f', hb1, h2, h3, h4, h5⟩ := hO
        have hput : ∀ j, j ≠ D → (W.putObj D (.deferred none)).heap[j]? = W.heap[j]? := fun j hj => World.putObj_heap_other hj
        have cR9 : (W.putObj D (.deferred none)).cell? ⟨w.heap.size + 1, 0, none⟩ = some (.int .i64 got) := (World.cell?_of_block (a := ⟨w.heap.size + 1, 0, none⟩) (hput (w.heap.size + 1) (by omega))).trans hb1.cell
        have hsz9 : (W.putObj D (.deferred none)).heap.size = W.heap.size := by simp [World.putObj]
        have hos9 : (W.putObj D (.deferred none)).os = W.os ∧ (W.putObj D (.deferred none)).tape = W.tape ∧ (W.putObj D (.deferred none)).output = W.output := ⟨rfl, rfl, rfl⟩
        generalize W.putObj D (.deferred none) = W9 at *
        exact ⟨.int .i64 got, by simp [results, Try.results118, go_sem, cR9], ⟨hos9.1.trans hkO.os, hos9.2.1.trans hkO.tape, hos9.2.2.trans hkO.output, by rw [hsz9]; exact hkO.size, fun j hj h1 h2 => (hput j (by omega)).trans (hkO.block j hj h1 h2)⟩,
          .inr ⟨got, f', rfl, h2, h3, h4.of_block (hput b (by omega)), h5⟩⟩
end Go.Proofs.Ytkloaeaepjoijaa

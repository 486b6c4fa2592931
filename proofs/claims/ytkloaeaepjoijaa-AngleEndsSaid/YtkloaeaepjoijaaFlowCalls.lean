/-
  flow: its contract: as much flows as can; what can still be reached is told.
-/
import Derived.Test.YtkloaeaepjoijaaWalk
import Derived.Test.YtkloaeaepjoijaaCut
set_option linter.all false
namespace Go.Proofs.Ytkloaeaepjoijaa
open Go.RowKit Go.WalkArith Go.Shelf

/-- Nothing that lay has turned, but the map. -/
structure MKeep (b : Nat) (W W' : World) : Prop where
  os : W'.os = W.os
  tape : W'.tape = W.tape
  output : W'.output = W.output
  size : W.heap.size ≤ W'.heap.size
  block : ∀ k, k < W.heap.size → k ≠ b → W'.heap[k]? = W.heap[k]?

theorem MKeep.refl (b : Nat) (W : World) : MKeep b W W := ⟨rfl, rfl, rfl, Nat.le_refl _, fun _ _ _ => rfl⟩
theorem MKeep.trans {b : Nat} {W W' W'' : World} (h : MKeep b W W') (k : MKeep b W' W'') : MKeep b W W'' :=
  ⟨k.os.trans h.os, k.tape.trans h.tape, k.output.trans h.output, Nat.le_trans h.size k.size, fun i hi h1 => (k.block i (Nat.lt_of_lt_of_le hi h.size) h1).trans (h.block i hi h1)⟩
theorem MKeep.of_below {b B : Nat} {W W' : World} (h : Below B W W') (hB : W.heap.size ≤ B) : MKeep b W W' :=
  ⟨h.os, h.tape, h.output, h.size, fun k hk _ => h.block k (by omega)⟩
theorem MKeep.below {b B : Nat} {W W' : World} (h : MKeep b W W') (hB : B ≤ b) (hW : B ≤ W.heap.size) : Below B W W' :=
  ⟨h.os, h.tape, h.output, h.size, fun k hk => h.block k (by omega) (by omega)⟩
theorem MKeep.cell {b : Nat} {W W' : World} (h : MKeep b W W') {k i : Nat} {v : Value} (hc : W.cell? ⟨k, i, none⟩ = some v) (hk : k ≠ b) : W'.cell? ⟨k, i, none⟩ = some v :=
  (World.cell?_of_block (a := ⟨k, i, none⟩) (h.block k (World.block_lt_of_cell? W _ hc) hk)).trans hc
theorem WKeep.toM {sb b : Nat} {W W0 W' : World} (h : WKeep sb b W0 W') (hm : MKeep b W W0) (hs : W.heap.size ≤ sb) : MKeep b W W' :=
  ⟨h.os.trans hm.os, h.tape.trans hm.tape, h.output.trans hm.output, Nat.le_trans hm.size h.size, fun k hk h1 => (h.block k (Nat.lt_of_lt_of_le hk hm.size) (by omega) h1).trans (hm.block k hk h1)⟩

/-- What has flown. -/
structure Flown (len : Nat) (f0 f : Int → Int → Int → Int) (sum : Int) : Prop where
  nn : ∀ x y z, 0 ≤ f x y z
  pair : ∀ x y z, f x y z + f y x z = f0 x y z + f0 y x z
  bal : ∀ v : Int, outR len f0 v - outR len f v = (if v = 11 then sum else 0) - (if v = 12 then sum else 0)

theorem Flown.start (len : Nat) {f0 : Int → Int → Int → Int} (h : capOk f0) : Flown len f0 f0 0 := ⟨fun x y z => (h x y z).1, fun _ _ _ => rfl, fun v => by simp⟩
theorem Flown.cap {len : Nat} {f0 f : Int → Int → Int → Int} {sum : Int} (h : Flown len f0 f sum) (h0 : capOk f0) : capOk f := fun x y z => ⟨h.nn x y z, by rw [h.pair]; exact (h0 x y z).2⟩
theorem Flown.aug {len : Nat} {f0 f f' : Int → Int → Int → Int} {sum got : Int} {s : Int → Bool} (h : Flown len f0 f sum) (ha : Aug len s 11 got f f') : Flown len f0 f' (sum + got) :=
  ⟨ha.nn, fun x y z => by rw [ha.pair, h.pair], fun v => by
    have h1 := h.bal v
    have h2 := ha.bal v
    (repeat' split at h1) <;> (repeat' split at h2) <;> (repeat' split) <;> omega⟩
theorem Flown.le {len : Nat} {f0 f : Int → Int → Int → Int} {sum : Int} (h : Flown len f0 f sum) : sum ≤ outR len f0 11 := by
  have h1 := h.bal 11
  simp at h1
  have h2 : 0 ≤ outR len f 11 := sumR_nonneg fun u _ => sumR_nonneg fun j _ => h.nn _ _ _
  omega

/-- What flow hands back. -/
def FlowPost (b len : Nat) (f0 : Int → Int → Int → Int) (w : World) (e : Ending) (w' : World) : Prop :=
  ∃ (sum : Int) (f : Int → Int → Int → Int) (S : Int → Bool), e = .returned (.int .i64 sum) ∧ 0 ≤ sum ∧ ArcMap w' b f ∧ Flown len f0 f sum ∧ S (11 : Int) = true ∧ S 12 = false ∧ MKeep b w w' ∧
    (∀ u v j : Nat, u < 13 → v < 13 → j < len + 1 → S u = true → S v = false → f u v ((j : Int) - 1) = 0)

/-- A walk from first. -/
def FirstPost (b len : Nat) (f : Int → Int → Int → Int) (wr : World) (e : Ending) (w' : World) : Prop :=
  ∃ v : Int, e = .returned (.int .i64 v) ∧ MKeep b wr w' ∧
    ((v = 0 ∧ ArcMap w' b f ∧ ∃ S : Int → Bool, S 11 = true ∧ S 12 = false ∧ ∀ u v j : Nat, u < 13 → v < 13 → j < len + 1 → S u = true → S v = false → f u v ((j : Int) - 1) = 0) ∨
     (0 < v ∧ v ≤ 1073741824 ∧ ∃ f' s, ArcMap w' b f' ∧ Aug len s 11 v f f'))

def unseenCells : Array Value := #[.bool false, .bool false, .bool false, .bool false, .bool false, .bool false, .bool false, .bool false, .bool false, .bool false, .bool false, .bool false, .bool false]

theorem walk_first (g b len wv : Nat) (f : Int → Int → Int → Int) (wr : World) (hlen : len ≤ 100) (hcap : capOk f) (hsl : ∃ A cap, wr.cell? ⟨g, 0, none⟩ = some (.slice A len cap)) (hmp : wr.cell? ⟨g, 3, none⟩ = some (.map (some b)))
    (hm : ArcMap wr b f) (hbx : wr.cell? ⟨wv, 0, none⟩ = some (.pointer (some ⟨g, 0, none⟩))) :
    Calls Try.prog 118 #[.int .i64 11, .int .i64 1073741824, .pointer (some ⟨wr.heap.size, 0, none⟩), .pointer (some ⟨wv, 0, none⟩), .pointer (some ⟨wr.heap.size + 1, 0, none⟩)]
      ((wr.alloc (.cells unseenCells 140)).alloc (.cells #[.func (.func 118) #[] #[.pointer (some ⟨wr.heap.size, 0, none⟩), .pointer (some ⟨wv, 0, none⟩), .pointer (some ⟨wr.heap.size + 1, 0, none⟩)]] 146)) (FirstPost b len f wr) := by
  obtain ⟨A, cap, hA⟩ := hsl
  have hB : Below wr.heap.size wr ((wr.alloc (.cells unseenCells 140)).alloc (.cells #[.func (.func 118) #[] #[.pointer (some ⟨wr.heap.size, 0, none⟩), .pointer (some ⟨wv, 0, none⟩), .pointer (some ⟨wr.heap.size + 1, 0, none⟩)]] 146)) :=
    ((Below.refl _ _).alloc (Nat.le_refl _) _).alloc (by simp) _
  have hseen : SeenAt ((wr.alloc (.cells unseenCells 140)).alloc (.cells #[.func (.func 118) #[] #[.pointer (some ⟨wr.heap.size, 0, none⟩), .pointer (some ⟨wv, 0, none⟩), .pointer (some ⟨wr.heap.size + 1, 0, none⟩)]] 146)) wr.heap.size (fun _ => false) := by
    refine ⟨unseenCells, 140, (Below.heap_alloc _ _ _ (by simp)).trans (heap_alloc_new wr _), rfl, fun i hi => ?_⟩
    have : ∀ i : Fin 13, unseenCells[i.1]? = some (.bool false) := by intro i; match i with | ⟨0, _⟩ | ⟨1, _⟩ | ⟨2, _⟩ | ⟨3, _⟩ | ⟨4, _⟩ | ⟨5, _⟩ | ⟨6, _⟩ | ⟨7, _⟩ | ⟨8, _⟩ | ⟨9, _⟩ | ⟨10, _⟩ | ⟨11, _⟩ | ⟨12, _⟩ => rfl
    exact this ⟨i, hi⟩
  have hkv : Boxed ((wr.alloc (.cells unseenCells 140)).alloc (.cells #[.func (.func 118) #[] #[.pointer (some ⟨wr.heap.size, 0, none⟩), .pointer (some ⟨wv, 0, none⟩), .pointer (some ⟨wr.heap.size + 1, 0, none⟩)]] 146)) (wr.heap.size + 1) 146 (.func (.func 118) #[] #[.pointer (some ⟨wr.heap.size, 0, none⟩), .pointer (some ⟨wv, 0, none⟩), .pointer (some ⟨wr.heap.size + 1, 0, none⟩)]) := by
    have := Boxed.new (wr.alloc (.cells unseenCells 140)) 146 (.func (.func 118) #[] #[.pointer (some ⟨wr.heap.size, 0, none⟩), .pointer (some ⟨wv, 0, none⟩), .pointer (some ⟨wr.heap.size + 1, 0, none⟩)])
    simpa using this
  generalize (wr.alloc (.cells unseenCells 140)).alloc (.cells #[.func (.func 118) #[] #[.pointer (some ⟨wr.heap.size, 0, none⟩), .pointer (some ⟨wv, 0, none⟩), .pointer (some ⟨wr.heap.size + 1, 0, none⟩)]] 146) = X at *
  have hE : WEnv X wr.heap.size wv (wr.heap.size + 1) g b len (fun _ => false) f :=
    ⟨hseen, (hB.cell (p := ⟨wv, 0, none⟩) (World.block_lt_of_cell? wr _ hbx)).trans hbx, hkv.cell, ⟨A, cap, (hB.cell (p := ⟨g, 0, none⟩) (World.block_lt_of_cell? wr _ hA)).trans hA⟩, (hB.cell (p := ⟨g, 3, none⟩) (World.block_lt_of_cell? wr _ hmp)).trans hmp, hm.of_block (hB.block _ hm.lt)⟩
  have hk0 : MKeep b wr X := MKeep.of_below hB (Nat.le_refl _)
  have hw := walk_any wr.heap.size wv (wr.heap.size + 1) g b len hlen (unseen fun _ => false) 11 1073741824 (fun _ => false) f X (Nat.le_refl _) (by omega) rfl (by omega) (by omega) hcap hE
  refine Calls.mono hw ?_
  rintro e w' ⟨hk, ⟨rfl, hb1, s', h1, h2, h3, h4, h5⟩ | ⟨got, f', rfl, h1, h2, h3, h4⟩⟩
  · refine ⟨0, rfl, hk.toM hk0 (Nat.le_refl _), .inl ⟨rfl, hE.map.of_block hb1, s', h3, h4, fun u v j hu hv hj hsu hsv => ?_⟩⟩
    have hn := (hcap u v ((j : Int) - 1)).1
    rcases Int.lt_or_le 0 (f u v ((j : Int) - 1)) with hp | hp
    · have := h5 u v ((j : Int) - 1) (by omega) (by omega) hsu rfl (by omega) (by omega) (by omega) (by omega) hp
      rw [this] at hsv; cases hsv
    · omega
  · exact ⟨got, rfl, hk.toM hk0 (Nat.le_refl _), .inr ⟨h1, h2, f', _, h3, h4⟩⟩

def FlowRel (b len g wv : Nat) (f0 : Int → Int → Int → Int) (w : World) (t : Value) (wr : World) : Prop :=
  ∃ sum f, t = .int .i64 sum ∧ 0 ≤ sum ∧ ArcMap wr b f ∧ Flown len f0 f sum ∧ MKeep b w wr ∧ Boxed wr wv 136 (.pointer (some ⟨g, 0, none⟩))

set_option maxRecDepth 100000 in
set_option maxHeartbeats 4000000 in
theorem flow_any (g b len : Nat) (f0 : Int → Int → Int → Int) (w : World) (hlen : len ≤ 100) (hsl : ∃ A cap, w.cell? ⟨g, 0, none⟩ = some (.slice A len cap)) (hmp : w.cell? ⟨g, 3, none⟩ = some (.map (some b)))
    (hmap : ArcMap w b f0) (hcap : capOk f0) (hdue : outR len f0 11 ≤ 1000000) :
    Calls Try.prog 93 #[.pointer (some ⟨g, 0, none⟩)] w (FlowPost b len f0 w) := by
  have hgb : g ≠ b := by rintro rfl; have := cell_map_none hmap 3; rw [this] at hmp; cases hmp
  have hbl := hmap.lt
  have hgl := World.block_lt_of_cell? w _ hmp
  obtain ⟨A, cap, hA⟩ := hsl
  have HC := Lib.hid hcap
  have HM := Lib.hid hmap
  clear hmap hcap
  go_enter Try.func93, Try.ntmps93
  go_wp2_with fail
  go_loopw [2] (FlowRel b len g w.heap.size f0 w) (fun s _ => (outR len f0 11 - intOf s).toNat)
  case atStart =>
    exact ⟨0, f0, rfl, by omega, HM.out.of_block (Below.heap_alloc _ _ _ hbl), Flown.start len HC.out, MKeep.of_below ((Below.refl _ _).alloc (Nat.le_refl _) _) (Nat.le_refl _), Boxed.new w 136 _⟩
  case round =>
    obtain ⟨sum, f, rfl, hs0, hm, hfl, hk, hbx⟩ := hrel
    have hszr := hk.size
    have hle := hfl.le
    have HF := Lib.hid hfl
    have HMm := Lib.hid hm
    clear hm hfl
    have hwf := Lib.hid (walk_first g b len w.heap.size f wr hlen (HF.out.cap HC.out) ⟨A, cap, hk.cell hA hgb⟩ (hk.cell hmp hgb) HMm.out hbx.cell)
    go_wp2_with fail
    refine Calls.mono hwf.out ?_
    rintro e w1 ⟨v, rfl, hk1, ⟨rfl, hm1, S, hS1, hS2, hcl⟩ | ⟨hv0, hv1, f', s, hm1, hA1⟩⟩
    · have HCl := Lib.hid hcl
      clear hcl
      go_wp2_with fail
      go_ret
      exact ⟨sum, f, S, rfl, hs0, hm1, HF.out, hS1, hS2, hk.trans hk1, HCl.out⟩
    · have hfl2 := Lib.hid (HF.out.aug hA1)
      have hle2 := (HF.out.aug hA1).le
      have HA1 := Lib.hid hA1
      clear hA1
      have hvb : (v == 0) = false := by simp; omega
      go_wp2_with fail
      go_roundw
      case rel => exact ⟨sum + v, f', rfl, by omega, hm1, hfl2.out, hk.trans hk1, (hk1.block _ hbx.lt (by omega)).trans hbx⟩
      case measure => simp [intOf]; omega
end Go.Proofs.Ytkloaeaepjoijaa

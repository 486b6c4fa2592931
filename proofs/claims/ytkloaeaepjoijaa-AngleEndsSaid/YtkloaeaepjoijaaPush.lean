/-
  What push and needs do to the map of arcs.
-/
import Derived.Test.YtkloaeaepjoijaaMaps
import Derived.Deep.RegionHeld3
import Derived.Deep.QuietTactic
import Derived.BigQuiet
set_option linter.all false
namespace Go.Proofs.Ytkloaeaepjoijaa
open Go.RowKit Go.WalkArith

/-- A change of one entry, laid out as the runs that the walk meets, in the world that a drawn region begins in. -/
theorem bump_runs {w : World} {b : Nat} {f : Int → Int → Int → Int} {x y z : Int} (hm : ArcMap w b f) (hkey : ∃ l, keyOf Try.prog 112 (arcV x y z) = some l) (v : Int) :
    ∃ v0 st w1 w2, (Instr.lookup 151 (.map (some b)) (.agg #[.int .i64 x, .int .i64 y, .int .i64 z]) false).run Try.prog w.drew = .ok (.int .i64 (f x y z)) w.drew ∧
      (Instr.mapEntry 151 (.map (some b)) (.agg #[.int .i64 x, .int .i64 y, .int .i64 z])).run Try.prog w.drew = .ok (.tuple #[v0, .int .i64 (st : Nat)]) w1 ∧
      (Instr.lookup 151 (.map (some b)) (.agg #[.int .i64 x, .int .i64 y, .int .i64 z]) false).run Try.prog w1 = .ok (.int .i64 (f x y z)) w1 ∧
      (Instr.entryStore 151 (.map (some b)) (.int .i64 (st : Nat)) (.int .i64 v)).run Try.prog w1 = .ok () w2 ∧
      MapOnly b w w1 ∧ ArcMap w2 b (upd f x y z v) ∧ MapOnly b w w2 := by
  have hd : ArcMap w.drew b f := hm.of_block rfl
  obtain ⟨v0, st, w1, h1, h2, h3, h4⟩ := hd.run_mapEntry hkey
  obtain ⟨w2, h5, h6, h7⟩ := h2.run_entryStore h3 v
  exact ⟨v0, st, w1, w2, hd.run_lookup hkey, h1, h2.run_lookup hkey, h5, ⟨h4.os, h4.tape, h4.output, h4.size, h4.block, h4.cell, h4.frozen⟩, h6,
    ⟨(h4.trans h7).os, (h4.trans h7).tape, (h4.trans h7).output, (h4.trans h7).size, (h4.trans h7).block, (h4.trans h7).cell, (h4.trans h7).frozen⟩⟩

set_option maxRecDepth 100000 in
set_option maxHeartbeats 1000000 in
theorem needs_pos (g b : Nat) (node n : Int) (f : Int → Int → Int → Int) (w : World) (hn : 0 < n) (hn2 : n ≤ 1000000) (hnd : 0 ≤ node) (hnd2 : node ≤ 12)
    (hg : w.cell? ⟨g, 3, none⟩ = some (.map (some b))) (hm : ArcMap w b f) (hf0 : -1000000 ≤ f 11 node (-1)) (hf1 : f 11 node (-1) ≤ 1000000) :
    Calls Try.prog 117 #[.pointer (some ⟨g, 0, none⟩), .int .i64 node, .int .i64 n] w fun e w' => e = .returned (.tuple #[]) ∧ ArcMap w' b (upd f 11 node (-1) (f 11 node (-1) + n)) ∧ MapOnly b w w' := by
  have hkey : ∃ l, keyOf Try.prog 112 (arcV 11 node (-1)) = some l := arc_key _ _ _ (wf_i64 ⟨by omega, by omega⟩) (wf_i64 ⟨by omega, by omega⟩) (wf_i64 ⟨by omega, by omega⟩)
  obtain ⟨v0, st, w1, w2, hl, he, hl1, hs, ho1, hm2, ho2⟩ := bump_runs hm hkey (f 11 node (-1) + n)
  have hg1 : w1.cell? ⟨g, 3, none⟩ = some (.map (some b)) := (ho1.cell _).trans hg
  have HM := Lib.hid hm2
  have HO := Lib.hid ho2
  clear hm2 ho2 ho1 hm hkey
  go_enter Try.func117, Try.ntmps117
  go_wp2_with fail
  go_region
  go_end0
  exact ⟨rfl, HM.out, HO.out⟩

set_option maxRecDepth 100000 in
set_option maxHeartbeats 1000000 in
theorem needs_neg (g b : Nat) (node n : Int) (f : Int → Int → Int → Int) (w : World) (hn : n ≤ 0) (hn2 : -1000000 ≤ n) (hnd : 0 ≤ node) (hnd2 : node ≤ 12)
    (hg : w.cell? ⟨g, 3, none⟩ = some (.map (some b))) (hm : ArcMap w b f) (hf0 : -1000000 ≤ f node 12 (-1)) (hf1 : f node 12 (-1) ≤ 1000000) :
    Calls Try.prog 117 #[.pointer (some ⟨g, 0, none⟩), .int .i64 node, .int .i64 n] w fun e w' => e = .returned (.tuple #[]) ∧ ArcMap w' b (upd f node 12 (-1) (f node 12 (-1) - n)) ∧ MapOnly b w w' := by
  have hkey : ∃ l, keyOf Try.prog 112 (arcV node 12 (-1)) = some l := arc_key _ _ _ (wf_i64 ⟨by omega, by omega⟩) (wf_i64 ⟨by omega, by omega⟩) (wf_i64 ⟨by omega, by omega⟩)
  obtain ⟨v0, st, w1, w2, hl, he, hl1, hs, ho1, hm2, ho2⟩ := bump_runs hm hkey (f node 12 (-1) - n)
  have hg1 : w1.cell? ⟨g, 3, none⟩ = some (.map (some b)) := (ho1.cell _).trans hg
  have HM := Lib.hid hm2
  have HO := Lib.hid ho2
  clear hm2 ho2 ho1 hm hkey
  go_enter Try.func117, Try.ntmps117
  go_wp2_with fail
  go_region
  go_end0
  exact ⟨rfl, HM.out, HO.out⟩

/-- f after n has been let flow along an arc. -/
def pushF (f : Int → Int → Int → Int) (x y z n : Int) : Int → Int → Int → Int :=
  upd (upd f x y z (f x y z - n)) y x z (upd f x y z (f x y z - n) y x z + n)

set_option maxRecDepth 100000 in
set_option maxHeartbeats 1000000 in
theorem push_any (g b : Nat) (x y z n : Int) (f : Int → Int → Int → Int) (w : World) (hn : 0 ≤ n) (hn2 : n ≤ 2000000000) (hx : 0 ≤ x) (hx2 : x ≤ 12) (hy : 0 ≤ y) (hy2 : y ≤ 12) (hz : -1 ≤ z) (hz2 : z ≤ 100)
    (hg : w.cell? ⟨g, 3, none⟩ = some (.map (some b))) (hm : ArcMap w b f) (hf0 : -2000000000 ≤ f x y z) (hf1 : f x y z ≤ 2000000000) (hf2 : -2000000000 ≤ f y x z) (hf3 : f y x z ≤ 2000000000) :
    Calls Try.prog 119 #[.pointer (some ⟨g, 0, none⟩), .agg #[.int .i64 x, .int .i64 y, .int .i64 z], .int .i64 n] w fun e w' => e = .returned (.tuple #[]) ∧ ArcMap w' b (pushF f x y z n) ∧ 
      MapOnly b (w.alloc (.cells #[.int .i64 x, .int .i64 y, .int .i64 z] 112)) w' := by
  have hgl := World.block_lt_of_cell? w _ hg
  have hkey : ∃ l, keyOf Try.prog 112 (arcV x y z) = some l := arc_key _ _ _ (wf_i64 ⟨by omega, by omega⟩) (wf_i64 ⟨by omega, by omega⟩) (wf_i64 ⟨by omega, by omega⟩)
  have hkey' : ∃ l, keyOf Try.prog 112 (arcV y x z) = some l := arc_key _ _ _ (wf_i64 ⟨by omega, by omega⟩) (wf_i64 ⟨by omega, by omega⟩) (wf_i64 ⟨by omega, by omega⟩)
  have hma : ArcMap (w.alloc (.cells #[.int .i64 x, .int .i64 y, .int .i64 z] 112)) b f := hm.of_block (Below.heap_alloc _ _ _ hm.lt)
  obtain ⟨v0, st, w1, w2, hl, he, hl1, hs, ho1, hm2, ho2⟩ := bump_runs hma hkey (f x y z - n)
  obtain ⟨f1, hf1e⟩ : ∃ f1, f1 = upd f x y z (f x y z - n) := ⟨_, rfl⟩
  have hb0 : -4000000000 ≤ f1 y x z := by rw [hf1e]; unfold upd; split <;> omega
  have hb1 : f1 y x z ≤ 2000000000 := by rw [hf1e]; unfold upd; split <;> omega
  rw [← hf1e] at hm2
  obtain ⟨u0, st', w3, w4, kl, ke, kl1, ks, ko1, km2, ko2⟩ := bump_runs hm2 hkey' (f1 y x z + n)
  have hg1 : w1.cell? ⟨g, 3, none⟩ = some (.map (some b)) := ((ho1.cell _).trans (World.cell?_alloc_lt w _ _ hgl)).trans hg
  have hg2 : w2.cell? ⟨g, 3, none⟩ = some (.map (some b)) := ((ho2.cell _).trans (World.cell?_alloc_lt w _ _ hgl)).trans hg
  have hg3 : w3.cell? ⟨g, 3, none⟩ = some (.map (some b)) := (ko1.cell _).trans hg2
  have ha0 : w1.cell? ⟨w.heap.size, 0, none⟩ = some (.int .i64 x) := by rw [ho1.cell]; simp
  have ha1 : w1.cell? ⟨w.heap.size, 1, none⟩ = some (.int .i64 y) := by rw [ho1.cell]; simp
  have ha2 : w1.cell? ⟨w.heap.size, 2, none⟩ = some (.int .i64 z) := by rw [ho1.cell]; simp
  have hc0 : w2.cell? ⟨w.heap.size, 0, none⟩ = some (.int .i64 x) := by rw [ho2.cell]; simp
  have hc1 : w2.cell? ⟨w.heap.size, 1, none⟩ = some (.int .i64 y) := by rw [ho2.cell]; simp
  have hc2 : w2.cell? ⟨w.heap.size, 2, none⟩ = some (.int .i64 z) := by rw [ho2.cell]; simp
  have hd0 : w3.cell? ⟨w.heap.size, 0, none⟩ = some (.int .i64 x) := (ko1.cell _).trans hc0
  have hd1 : w3.cell? ⟨w.heap.size, 1, none⟩ = some (.int .i64 y) := (ko1.cell _).trans hc1
  have hd2 : w3.cell? ⟨w.heap.size, 2, none⟩ = some (.int .i64 z) := (ko1.cell _).trans hc2
  have HM := Lib.hid km2
  have HO := Lib.hid (ho2.trans ko2)
  have HF := Lib.hid hf1e
  clear hm2 ho2 ho1 hm hkey hkey' km2 ko1 ko2 hma hf1e
  go_enter Try.func119, Try.ntmps119
  go_wp2_with fail
  go_region
  go_wp2_with fail
  go_region
  go_end0
  refine ⟨rfl, ?_, HO.out⟩
  have := HM.out
  rw [HF.out] at this
  exact this

end Go.Proofs.Ytkloaeaepjoijaa

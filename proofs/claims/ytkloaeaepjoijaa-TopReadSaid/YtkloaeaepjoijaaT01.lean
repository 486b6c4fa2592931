/-
  The map of arcs: what a block of type map[arc]int reads as, and the four operations on it.
  What push and needs do to the map of arcs.
  The small functions of package angle.
  Plain: what a walk through the residual net does to what can still flow.
  Plain: after the greatest flow, either all that is due flows, and this is a truth, or what can still be reached is a cut.
  Nets in memory; node, within, arc.
  TopRead, plainly: what a tired reader can have read; the rows; all texts.
  Strings as lists of numbers; Step and Cost of the flashes' reference.
-/
import Derived.BigQuiet
import Derived.Deep.QuietTactic
import Derived.Deep.RegionHeld3
import Derived.DeepKeys4
import Derived.KernelRfl
import Derived.Lib.Hide
import Derived.Outline
import Derived.Test.YtkloaeaepjoijaaProg
import Derived.WalkKit
import Derived.WalkLawsBesides
import Derived.WalkSpells
import Derived.WideKeyEntry
set_option linter.all false
namespace Go.Proofs.Ytkloaeaepjoijaa
section
open Go.RowKit Go.MapKept
open Go.ChangeMaps (setBlock)
theorem Try.laidOut : laidOutB Try.prog = true := by kernel_rfl
def arcV (x y z : Int) : Value := .agg #[.int .i64 x, .int .i64 y, .int .i64 z]
theorem arcV_inj {x y z x' y' z' : Int} (h : arcV x y z = arcV x' y' z') : x = x' ∧ y = y' ∧ z = z' := by
  unfold arcV at h
  simpa using h
theorem arc_law : WideMaps.KeyLaw Try.prog 112 :=
  deep_law_laid Try.laidOut (m := 3) (by omega) (by decide +kernel) (by kernel_rfl) (by kernel_rfl)
theorem Try.cells112 : Try.prog.cellsOf 112 = 3 := by kernel_rfl
theorem Try.cells3 : Try.prog.cellsOf 3 = 1 := by kernel_rfl
theorem arc_key (x y z : Int) (hx : (Lit.int .i64 x).wf = true) (hy : (Lit.int .i64 y).wf = true) (hz : (Lit.int .i64 z).wf = true) :
    ∃ l, keyOf Try.prog 112 (arcV x y z) = some l := by
  have hk : Try.prog.keyType 112 = true := by kernel_rfl
  have hd : ∀ d : Nat, Try.prog.keyLits (d + 2) 112 [.int .i64 x, .int .i64 y, .int .i64 z] = some [.int .i64 x, .int .i64 y, .int .i64 z] := by
    intro d
    simp [Program.keyLits, Try.underlying112, Try.cells112, Try.cells3, Try.underlying3, hx, hy, hz]
  have hsz : Try.prog.types.size + 1 = 197 + 2 := by kernel_rfl
  unfold keyOf
  rw [hsz]
  simp only [Try.underlying112, hk, arcV, Value.formed, Value.cells, Try.cells112, hd]
  exact ⟨_, rfl⟩
/-- Block b is a map of arcs that reads as f (0 where there is no entry). -/
def ArcMap (w : World) (b : Nat) (f : Int → Int → Int → Int) : Prop :=
  ∃ es clock, w.heap[b]? = some (.map es clock) ∧
    (∀ e ∈ es.toList, ∃ x y z, e.key = arcV x y z ∧ (∃ l, keyOf Try.prog 112 e.key = some l) ∧ e.val = .int .i64 (f x y z)) ∧
    (es.toList.map (·.key)).Nodup ∧ (∀ e ∈ es.toList, e.born < clock) ∧ (es.toList.map (·.born)).Nodup ∧
    (∀ x y z, (∀ e ∈ es.toList, e.key ≠ arcV x y z) → f x y z = 0)
/-- The entry of a key in block b has this stamp. -/
def ArcEnt (w : World) (b : Nat) (k : Value) (st : Nat) : Prop :=
  ∃ es clock, w.heap[b]? = some (.map es clock) ∧ ∃ e ∈ es.toList, e.key = k ∧ e.born = st
/-- f with one value turned. -/
def upd (f : Int → Int → Int → Int) (x y z v : Int) : Int → Int → Int → Int :=
  fun a b c => if a = x ∧ b = y ∧ c = z then v else f a b c
section
variable {w : World} {b : Nat} {f : Int → Int → Int → Int} {x y z : Int}
theorem ArcMap.lt (h : ArcMap w b f) : b < w.heap.size := by
  obtain ⟨es, clock, hb, _⟩ := h
  exact (Array.getElem?_eq_some_iff.1 hb).1
theorem ArcMap.new (w : World) : ArcMap (w.alloc (.map #[] 0)) w.heap.size (fun _ _ _ => 0) :=
  ⟨#[], 0, heap_alloc_new w _, by simp, by simp, by simp, by simp, fun _ _ _ _ => rfl⟩
theorem ArcMap.of_block {w' : World} (h : ArcMap w b f) (hb : w'.heap[b]? = w.heap[b]?) : ArcMap w' b f := by
  obtain ⟨es, clock, h1, h2⟩ := h
  exact ⟨es, clock, hb.trans h1, h2⟩
theorem zero3 (w : World) : (zeroValue 3).run Try.prog w = .ok (.int .i64 0) w := by kernel_rfl
theorem ArcMap.run_lookup (h : ArcMap w b f) (hk : ∃ l, keyOf Try.prog 112 (arcV x y z) = some l) :
    (Instr.lookup 151 (.map (some b)) (arcV x y z) false).run Try.prog w = .ok (.int .i64 (f x y z)) w := by
  obtain ⟨es, clock, hb, he, hn, hs, hs2, h0⟩ := h
  obtain ⟨l, hl⟩ := hk
  have hu : Try.prog.underlying 151 = some (.map 112 3) := Try.underlying151
  rcases arc_law.find w hl es.toList (fun e hm => (he e hm).elim fun _ h => h.elim fun _ h => h.elim fun _ h => h.2.1) with ⟨h1, h2⟩ | ⟨j, e, h1, h2, h3⟩
  · simp [Instr.lookup, run_underlying hu, MapKept.run_getObj_map hb, arc_law.check w _ hl, h1, zero3, Result.andThen, h0 x y z h2]
  · obtain ⟨x', y', z', hk', _, hv⟩ := he e (List.mem_of_getElem? h2)
    obtain ⟨rfl, rfl, rfl⟩ := arcV_inj (hk'.symm.trans h3)
    simp [Instr.lookup, run_underlying hu, MapKept.run_getObj_map hb, arc_law.check w _ hl, h1, Result.andThen, hv]
theorem cell_setBlock_map {w : World} {b : Nat} {es es' : Array MapEntry} {clock clock' : Nat} (hb : w.heap[b]? = some (.map es clock)) (a : Addr) :
    (setBlock w b (.map es' clock')).cell? a = w.cell? a := by
  unfold World.cell? setBlock
  by_cases e : a.block = b
  · subst e
    have hlt := (Array.getElem?_eq_some_iff.1 hb).1
    rw [hb]
    simp [hlt]
  · simp [Array.getElem?_setIfInBounds, show ¬ b = a.block from fun h => e h.symm]
theorem frozen_setBlock_map {w : World} {b : Nat} {es es' : Array MapEntry} {clock clock' : Nat} (hb : w.heap[b]? = some (.map es clock)) (a : Addr) :
    (setBlock w b (.map es' clock')).frozen? a = w.frozen? a := by
  unfold World.frozen? setBlock
  by_cases e : a.block = b
  · subst e
    have hlt := (Array.getElem?_eq_some_iff.1 hb).1
    rw [hb]
    simp [hlt]
  · simp [Array.getElem?_setIfInBounds, show ¬ b = a.block from fun h => e h.symm]
/-- Only block b has turned, and it was a map and is one. -/
structure MapOnly (b : Nat) (w w' : World) : Prop where
  os : w'.os = w.os
  tape : w'.tape = w.tape
  output : w'.output = w.output
  size : w'.heap.size = w.heap.size
  block : ∀ k, k ≠ b → w'.heap[k]? = w.heap[k]?
  cell : ∀ a, w'.cell? a = w.cell? a
  frozen : ∀ a, w'.frozen? a = w.frozen? a
theorem MapOnly.refl (b : Nat) (w : World) : MapOnly b w w := ⟨rfl, rfl, rfl, rfl, fun _ _ => rfl, fun _ => rfl, fun _ => rfl⟩
theorem MapOnly.trans {b : Nat} {w w' w'' : World} (h : MapOnly b w w') (k : MapOnly b w' w'') : MapOnly b w w'' :=
  ⟨k.os.trans h.os, k.tape.trans h.tape, k.output.trans h.output, k.size.trans h.size, fun i hi => (k.block i hi).trans (h.block i hi), fun a => (k.cell a).trans (h.cell a), fun a => (k.frozen a).trans (h.frozen a)⟩
theorem MapOnly.of_set {w : World} {b : Nat} {es es' : Array MapEntry} {clock clock' : Nat} (hb : w.heap[b]? = some (.map es clock)) : MapOnly b w (setBlock w b (.map es' clock')) :=
  ⟨rfl, rfl, rfl, by simp [setBlock], fun k hk => by simp [setBlock, Array.getElem?_setIfInBounds, show ¬ b = k from fun h => hk h.symm], cell_setBlock_map hb, frozen_setBlock_map hb⟩
theorem MapOnly.below {b B : Nat} {a w w' : World} (h : MapOnly b w w') (hb : Below B a w) (hB : B ≤ b) : Below B a w' :=
  hb.trans ⟨h.os, h.tape, h.output, Nat.le_of_eq h.size.symm, fun k hk => h.block k (by omega)⟩
theorem nodup_entry {l : List MapEntry} (hn : (l.map (·.key)).Nodup) {a c : MapEntry} (ha : a ∈ l) (hc : c ∈ l) (hk : a.key = c.key) : a = c := by
  induction l with
  | nil => cases ha
  | cons d r ih =>
    simp only [List.map_cons, List.nodup_cons] at hn
    rcases List.mem_cons.1 ha with rfl | ha' <;> rcases List.mem_cons.1 hc with rfl | hc'
    · rfl
    · exact absurd (List.mem_map.2 ⟨c, hc', hk.symm⟩) hn.1
    · exact absurd (List.mem_map.2 ⟨a, ha', hk⟩) hn.1
    · exact ih hn.2 ha' hc'
theorem ArcMap.run_mapEntry (h : ArcMap w b f) (hk : ∃ l, keyOf Try.prog 112 (arcV x y z) = some l) :
    ∃ v0 st w', (Instr.mapEntry 151 (.map (some b)) (arcV x y z)).run Try.prog w = .ok (.tuple #[v0, .int .i64 (st : Nat)]) w' ∧
      ArcMap w' b f ∧ ArcEnt w' b (arcV x y z) st ∧ MapOnly b w w' := by
  obtain ⟨es, clock, hb, he, hn, hs, hs2, h0⟩ := h
  have hk0 := hk
  obtain ⟨l, hl⟩ := hk
  have hlt := (Array.getElem?_eq_some_iff.1 hb).1
  have hu : Try.prog.underlying 151 = some (.map 112 3) := Try.underlying151
  rcases arc_law.find w hl es.toList (fun e hm => (he e hm).elim fun _ h => h.elim fun _ h => h.elim fun _ h => h.2.1) with ⟨h1, h2⟩ | ⟨j, e, h1, h2, h3⟩
  · refine ⟨.int .i64 0, clock, setBlock w b (.map (es.push ⟨arcV x y z, .int .i64 0, clock⟩) (clock + 1)), ?_, ?_, ?_, MapOnly.of_set hb⟩
    · simp [Instr.mapEntry, run_underlying hu, MapKept.run_getObj_map hb, arc_law.check w false hl, h1, zero3, MapKept.run_setObj_map _ hb, Result.andThen, setBlock, goInt]
    · refine ⟨es.push ⟨arcV x y z, .int .i64 0, clock⟩, clock + 1, by simp [setBlock, hlt], ?_, ?_, ?_, ?_, ?_⟩
      · intro e hm
        simp only [Array.toList_push, List.mem_append, List.mem_singleton] at hm
        rcases hm with hm | rfl
        · exact he e hm
        · exact ⟨x, y, z, rfl, hk0, by rw [h0 x y z h2]⟩
      · simp only [Array.toList_push, List.map_append, List.map_cons, List.map_nil]
        refine List.nodup_append.2 ⟨hn, by simp, fun a ha c hc e1 => ?_⟩
        simp only [List.mem_singleton] at hc
        obtain ⟨u, hu1, rfl⟩ := List.mem_map.1 ha
        exact h2 u hu1 (e1.trans hc)
      · intro e hm
        simp only [Array.toList_push, List.mem_append, List.mem_singleton] at hm
        rcases hm with hm | rfl
        · have := hs e hm; omega
        · simp
      · simp only [Array.toList_push, List.map_append, List.map_cons, List.map_nil]
        refine List.nodup_append.2 ⟨hs2, by simp, fun a ha c hc e1 => ?_⟩
        simp only [List.mem_singleton] at hc
        obtain ⟨u, hu1, rfl⟩ := List.mem_map.1 ha
        have := hs u hu1
        omega
      · intro x' y' z' hx'
        exact h0 x' y' z' fun e hm => hx' e (by simp only [Array.toList_push, List.mem_append]; exact .inl hm)
    · exact ⟨_, _, by simp [setBlock, hlt]; exact ⟨rfl, rfl⟩, ⟨arcV x y z, .int .i64 0, clock⟩, by simp, rfl, rfl⟩
  · have hj : es[j]? = some e := by simpa using h2
    have hsame : es.modify j (fun e => { e with key := arcV x y z }) = es := by
      apply Array.ext'
      rw [Array.toList_modify, Go.ChangeMaps.modify_eq_set _ _ _ _ h2]
      have : ({ e with key := arcV x y z } : MapEntry) = e := by rw [← h3]
      rw [this]
      exact Go.WideElems.set_self _ _ _ h2
    have hself : setBlock w b (.map es clock) = w := by
      unfold setBlock
      have : w.heap.setIfInBounds b (.map es clock) = w.heap := by
        apply Array.ext'
        rw [Array.toList_setIfInBounds]
        exact Go.WideElems.set_self _ _ _ (by simpa using hb)
      rw [this]
    refine ⟨e.val, e.born, w, ?_, ⟨es, clock, hb, he, hn, hs, hs2, h0⟩, ⟨es, clock, hb, e, List.mem_of_getElem? h2, h3, rfl⟩, MapOnly.refl _ _⟩
    have hr := MapKept.run_setObj_map (P := Try.prog) (.map es clock) hb
    rw [show ({ w with heap := w.heap.setIfInBounds b (.map es clock) } : World) = w from hself] at hr
    simp [Instr.mapEntry, run_underlying hu, MapKept.run_getObj_map hb, arc_law.check w false hl, h1, hj, h3, arc_law.stays w hl, hsame, hr, Result.andThen, goInt]
theorem arcMap_modify {es : Array MapEntry} {clock : Nat} (hb : w.heap[b]? = some (.map es clock))
    (he : ∀ e ∈ es.toList, ∃ x y z, e.key = arcV x y z ∧ (∃ l, keyOf Try.prog 112 e.key = some l) ∧ e.val = .int .i64 (f x y z))
    (hn : (es.toList.map (·.key)).Nodup) (hs : ∀ e ∈ es.toList, e.born < clock) (hs2 : (es.toList.map (·.born)).Nodup)
    (h0 : ∀ x y z, (∀ e ∈ es.toList, e.key ≠ arcV x y z) → f x y z = 0) {j : Nat} {e0 : MapEntry} (hj' : es.toList[j]? = some e0) (hkey0 : e0.key = arcV x y z) (v : Int) :
    ArcMap (setBlock w b (.map (es.modify j fun e => { e with val := .int .i64 v }) clock)) b (upd f x y z v) := by
  have hlt := (Array.getElem?_eq_some_iff.1 hb).1
  have hm0 : e0 ∈ es.toList := List.mem_of_getElem? hj'
  obtain ⟨hjl, hj⟩ := List.getElem?_eq_some_iff.1 hj'
  have hl : (es.modify j fun e => { e with val := Value.int .i64 v }).toList = es.toList.set j { e0 with val := .int .i64 v } := by
    rw [Array.toList_modify, Go.ChangeMaps.modify_eq_set _ _ _ _ hj']
  have hmk : (es.toList.set j { e0 with val := .int .i64 v }).map (·.key) = es.toList.map (·.key) := by
    rw [List.map_set]
    exact Go.WideElems.set_self _ _ _ (by rw [List.getElem?_map, hj']; rfl)
  have hmb : (es.toList.set j { e0 with val := .int .i64 v }).map (·.born) = es.toList.map (·.born) := by
    rw [List.map_set]
    exact Go.WideElems.set_self _ _ _ (by rw [List.getElem?_map, hj']; rfl)
  refine ⟨_, clock, by simp [setBlock, hlt]; rfl, ?_, by rw [hl, hmk]; exact hn, ?_, by rw [hl, hmb]; exact hs2, ?_⟩
  · intro e hm
    rw [hl] at hm
    rcases List.mem_or_eq_of_mem_set hm with hm1 | rfl
    · obtain ⟨x', y', z', hk', hk2, hv⟩ := he e hm1
      refine ⟨x', y', z', hk', hk2, ?_⟩
      unfold upd
      split
      · rename_i hc
        obtain ⟨rfl, rfl, rfl⟩ := hc
        have hee : e = e0 := nodup_entry hn hm1 hm0 (hk'.trans hkey0.symm)
        subst hee
        have hnd : (es.toList.set j { e with val := .int .i64 v }).Nodup := by
          have : ((es.toList.set j { e with val := .int .i64 v }).map (·.key)).Nodup := by rw [hmk]; exact hn
          exact List.Pairwise.of_map (·.key) (fun a b hab hab2 => hab (by rw [hab2])) this
        -- e lies at j alone in the old list; in the new one j holds the new entry
        obtain ⟨i, hil, hi⟩ := List.getElem_of_mem hm
        by_cases hij : i = j
        · subst hij
          rw [List.getElem_set_self] at hi
          rw [← hi]
        · rw [List.getElem_set_ne (fun h => hij h.symm)] at hi
          have hil' : i < es.toList.length := by simpa using hil
          have hkn : (es.toList.map (·.key))[i]'(by simpa using hil') = (es.toList.map (·.key))[j]'(by simpa using hjl) := by
            simp only [List.getElem_map]
            rw [hi, hj]
          exact absurd ((List.getElem_inj hn).1 hkn) hij
      · exact hv
    · obtain ⟨x', y', z', hk', hk2, hv⟩ := he e0 hm0
      obtain ⟨rfl, rfl, rfl⟩ := arcV_inj (hk'.symm.trans hkey0)
      exact ⟨x', y', z', hk', hk2, by simp [upd]⟩
  · intro e hm
    rw [hl] at hm
    rcases List.mem_or_eq_of_mem_set hm with hm1 | rfl
    · exact hs e hm1
    · exact hs e0 hm0
  · intro x' y' z' hx'
    rw [hl] at hx'
    have hmem : ({ e0 with val := .int .i64 v } : MapEntry) ∈ es.toList.set j { e0 with val := .int .i64 v } := List.mem_set hjl _
    have hne := hx' _ hmem
    have hne' : ¬ (x' = x ∧ y' = y ∧ z' = z) := by
      rintro ⟨rfl, rfl, rfl⟩
      exact hne hkey0
    unfold upd
    rw [if_neg hne']
    refine h0 x' y' z' fun e hm he' => ?_
    have : e.key ∈ (es.toList.set j { e0 with val := .int .i64 v }).map (·.key) := by rw [hmk]; exact List.mem_map.2 ⟨e, hm, rfl⟩
    obtain ⟨e2, hm2, hk2⟩ := List.mem_map.1 this
    exact hx' e2 hm2 (hk2.trans he')
theorem ArcMap.run_entryStore (h : ArcMap w b f) {st : Nat} (hst : ArcEnt w b (arcV x y z) st) (v : Int) :
    ∃ w', (Instr.entryStore 151 (.map (some b)) (.int .i64 (st : Nat)) (.int .i64 v)).run Try.prog w = .ok () w' ∧
      ArcMap w' b (upd f x y z v) ∧ MapOnly b w w' := by
  obtain ⟨es, clock, hb, he, hn, hs, hs2, h0⟩ := h
  obtain ⟨es1, clock1, hb1, e0, hm0, hkey0, hborn0⟩ := hst
  have hlt := (Array.getElem?_eq_some_iff.1 hb).1
  rw [hb] at hb1
  injection hb1 with hb1
  injection hb1 with e1 e2
  subst e1 e2
  obtain ⟨j, hjl, hj⟩ := List.getElem_of_mem hm0
  have hj' : es.toList[j]? = some e0 := by rw [List.getElem?_eq_getElem hjl, hj]
  have hidx : es.findIdx? (fun e => ((e.born : Nat) : Int) == ((st : Nat) : Int)) = some j := by
    rw [Go.WideElems.findIdx_arr, ← hborn0]
    exact Go.WideElems.findIdx_born hs2 hj'
  refine ⟨setBlock w b (.map (es.modify j fun e => { e with val := .int .i64 v }) clock), ?_, ?_, MapOnly.of_set hb⟩
  · simp [Instr.entryStore, MapKept.run_getObj_map hb, asInt, asIntOf, hidx, MapKept.run_setObj_map _ hb, Result.andThen, setBlock]
  · exact arcMap_modify hb he hn hs hs2 h0 hj' hkey0 v
theorem ArcMap.run_mapUpdate (h : ArcMap w b f) (hk : ∃ l, keyOf Try.prog 112 (arcV x y z) = some l) (v : Int) :
    ∃ w', (Instr.mapUpdate 151 (.map (some b)) (arcV x y z) (.int .i64 v)).run Try.prog w = .ok () w' ∧ ArcMap w' b (upd f x y z v) ∧ MapOnly b w w' := by
  obtain ⟨es, clock, hb, he, hn, hs, hs2, h0⟩ := h
  have hk0 := hk
  obtain ⟨l, hl⟩ := hk
  have hlt := (Array.getElem?_eq_some_iff.1 hb).1
  have hu : Try.prog.underlying 151 = some (.map 112 3) := Try.underlying151
  rcases arc_law.find w hl es.toList (fun e hm => (he e hm).elim fun _ h => h.elim fun _ h => h.elim fun _ h => h.2.1) with ⟨h1, h2⟩ | ⟨j, e, h1, h2, h3⟩
  · refine ⟨setBlock w b (.map (es.push ⟨arcV x y z, .int .i64 v, clock⟩) (clock + 1)), ?_, ?_, MapOnly.of_set hb⟩
    · simp [Instr.mapUpdate, run_underlying hu, MapKept.run_getObj_map hb, arc_law.check w false hl, h1, MapKept.run_setObj_map _ hb, Result.andThen, setBlock]
    · refine ⟨es.push ⟨arcV x y z, .int .i64 v, clock⟩, clock + 1, by simp [setBlock, hlt], ?_, ?_, ?_, ?_, ?_⟩
      · intro e hm
        simp only [Array.toList_push, List.mem_append, List.mem_singleton] at hm
        rcases hm with hm | rfl
        · obtain ⟨x', y', z', hk', hk2, hv⟩ := he e hm
          refine ⟨x', y', z', hk', hk2, ?_⟩
          unfold upd
          rw [if_neg]
          · exact hv
          · rintro ⟨rfl, rfl, rfl⟩; exact h2 e hm hk'
        · exact ⟨x, y, z, rfl, hk0, by simp [upd]⟩
      · simp only [Array.toList_push, List.map_append, List.map_cons, List.map_nil]
        refine List.nodup_append.2 ⟨hn, by simp, fun a ha c hc e1 => ?_⟩
        simp only [List.mem_singleton] at hc
        obtain ⟨u, hu1, rfl⟩ := List.mem_map.1 ha
        exact h2 u hu1 (e1.trans hc)
      · intro e hm
        simp only [Array.toList_push, List.mem_append, List.mem_singleton] at hm
        rcases hm with hm | rfl
        · have := hs e hm; omega
        · simp
      · simp only [Array.toList_push, List.map_append, List.map_cons, List.map_nil]
        refine List.nodup_append.2 ⟨hs2, by simp, fun a ha c hc e1 => ?_⟩
        simp only [List.mem_singleton] at hc
        obtain ⟨u, hu1, rfl⟩ := List.mem_map.1 ha
        have := hs u hu1
        omega
      · intro x' y' z' hx'
        unfold upd
        rw [if_neg]
        · exact h0 x' y' z' fun e hm => hx' e (by simp only [Array.toList_push, List.mem_append]; exact .inl hm)
        · rintro ⟨rfl, rfl, rfl⟩
          exact hx' ⟨arcV x' y' z', .int .i64 v, clock⟩ (by simp) rfl
  · have hj : es[j]? = some e := by simpa using h2
    have hsame : es.modify j (fun e => { e with key := arcV x y z, val := .int .i64 v }) = es.modify j (fun e => { e with val := .int .i64 v }) := by
      apply Array.ext'
      rw [Array.toList_modify, Array.toList_modify, Go.ChangeMaps.modify_eq_set _ _ _ _ h2, Go.ChangeMaps.modify_eq_set _ _ _ _ h2, ← h3]
    refine ⟨setBlock w b (.map (es.modify j fun e => { e with val := .int .i64 v }) clock), ?_, arcMap_modify hb he hn hs hs2 h0 h2 h3 v, MapOnly.of_set hb⟩
    simp [Instr.mapUpdate, run_underlying hu, MapKept.run_getObj_map hb, arc_law.check w false hl, h1, hj, h3, arc_law.stays w hl, hsame, MapKept.run_setObj_map _ hb, Result.andThen, setBlock]
end
end
end Go.Proofs.Ytkloaeaepjoijaa
namespace Go.Proofs.Ytkloaeaepjoijaa
section
open Go.RowKit Go.WalkArith
/-- A change of one entry, laid out as the runs that the walk meets, in the world that a drawn region begins in. -/
theorem bump_runs {w : World} {b : Nat} {f : Int → Int → Int → Int} {x y z : Int} (hm : ArcMap w b f) (hkey : ∃ l, keyOf Try.prog 112 (arcV x y z) = some l) (v : Int) :
    ∃ v0 st w1 w2, (Instr.lookup 151 (.map (some b)) (.agg #[.int .i64 x, .int .i64 y, .int .i64 z]) false).run Try.prog w.drew = .ok (.int .i64 (f x y z)) w.drew ∧
      (Instr.mapEntry 151 (.map (some b)) (.agg #[.int .i64 x, .int .i64 y, .int .i64 z])).run Try.prog w.drew = .ok (.tuple #[v0, .int .i64 (st : Nat)]) w1 ∧
      (Instr.lookup 151 (.map (some b)) (.agg #[.int .i64 x, .int .i64 y, .int .i64 z]) false).run Try.prog w1 = .ok (.int .i64 (f x y z)) w1 ∧
      (Instr.entryStore 151 (.map (some b)) (.int .i64 (st : Nat)) (.int .i64 v)).run Try.prog w1 = .ok () w2 ∧
      MapOnly b w w1 ∧ ArcMap w2 b (upd f x y z v) ∧ MapOnly b w w2 := by
  have hd : ArcMap w.drew b f := hm.of_block rfl
  obtain ⟨v0, st, w1, h1, h2, h3, h4⟩ := hd.run_mapEntry hkey
  obtain ⟨w2, h5, h6, h7⟩ := h2.run_entryStore h3 v
  exact ⟨v0, st, w1, w2, hd.run_lookup hkey, h1, h2.run_lookup hkey, h5, ⟨h4.os, h4.tape, h4.output, h4.size, h4.block, h4.cell, h4.frozen⟩, h6,
    ⟨(h4.trans h7).os, (h4.trans h7).tape, (h4.trans h7).output, (h4.trans h7).size, (h4.trans h7).block, (h4.trans h7).cell, (h4.trans h7).frozen⟩⟩
set_option maxRecDepth 100000 in
set_option maxHeartbeats 1000000 in
theorem needs_pos (g b : Nat) (node n : Int) (f : Int → Int → Int → Int) (w : World) (hn : 0 < n) (hn2 : n ≤ 1000000) (hnd : 0 ≤ node) (hnd2 : node ≤ 12)
    (hg : w.cell? ⟨g, 3, none⟩ = some (.map (some b))) (hm : ArcMap w b f) (hf0 : -1000000 ≤ f 11 node (-1)) (hf1 : f 11 node (-1) ≤ 1000000) :
    Calls Try.prog 117 #[.pointer (some ⟨g, 0, none⟩), .int .i64 node, .int .i64 n] w fun e w' => e = .returned (.tuple #[]) ∧ ArcMap w' b (upd f 11 node (-1) (f 11 node (-1) + n)) ∧ MapOnly b w w' := by
  have hkey : ∃ l, keyOf Try.prog 112 (arcV 11 node (-1)) = some l := arc_key _ _ _ (wf_i64 ⟨by omega, by omega⟩) (wf_i64 ⟨by omega, by omega⟩) (wf_i64 ⟨by omega, by omega⟩)
  obtain ⟨v0, st, w1, w2, hl, he, hl1, hs, ho1, hm2, ho2⟩ := bump_runs hm hkey (f 11 node (-1) + n)
  have hg1 : w1.cell? ⟨g, 3, none⟩ = some (.map (some b)) := (ho1.cell _).trans hg
  have HM := Lib.hid hm2
  have HO := Lib.hid ho2
  clear hm2 ho2 ho1 hm hkey
  go_enter Try.func117, Try.ntmps117
  go_wp2_with fail
  go_region
  go_end0
  exact ⟨rfl, HM.out, HO.out⟩
set_option maxRecDepth 100000 in
set_option maxHeartbeats 1000000 in
theorem needs_neg (g b : Nat) (node n : Int) (f : Int → Int → Int → Int) (w : World) (hn : n ≤ 0) (hn2 : -1000000 ≤ n) (hnd : 0 ≤ node) (hnd2 : node ≤ 12)
    (hg : w.cell? ⟨g, 3, none⟩ = some (.map (some b))) (hm : ArcMap w b f) (hf0 : -1000000 ≤ f node 12 (-1)) (hf1 : f node 12 (-1) ≤ 1000000) :
    Calls Try.prog 117 #[.pointer (some ⟨g, 0, none⟩), .int .i64 node, .int .i64 n] w fun e w' => e = .returned (.tuple #[]) ∧ ArcMap w' b (upd f node 12 (-1) (f node 12 (-1) - n)) ∧ MapOnly b w w' := by
  have hkey : ∃ l, keyOf Try.prog 112 (arcV node 12 (-1)) = some l := arc_key _ _ _ (wf_i64 ⟨by omega, by omega⟩) (wf_i64 ⟨by omega, by omega⟩) (wf_i64 ⟨by omega, by omega⟩)
  obtain ⟨v0, st, w1, w2, hl, he, hl1, hs, ho1, hm2, ho2⟩ := bump_runs hm hkey (f node 12 (-1) - n)
  have hg1 : w1.cell? ⟨g, 3, none⟩ = some (.map (some b)) := (ho1.cell _).trans hg
  have HM := Lib.hid hm2
  have HO := Lib.hid ho2
  clear hm2 ho2 ho1 hm hkey
  go_enter Try.func117, Try.ntmps117
  go_wp2_with fail
  go_region
  go_end0
  exact ⟨rfl, HM.out, HO.out⟩
/-- f after n has been let flow along an arc. -/
def pushF (f : Int → Int → Int → Int) (x y z n : Int) : Int → Int → Int → Int :=
  upd (upd f x y z (f x y z - n)) y x z (upd f x y z (f x y z - n) y x z + n)
set_option maxRecDepth 100000 in
set_option maxHeartbeats 1000000 in
theorem push_any (g b : Nat) (x y z n : Int) (f : Int → Int → Int → Int) (w : World) (hn : 0 ≤ n) (hn2 : n ≤ 2000000000) (hx : 0 ≤ x) (hx2 : x ≤ 12) (hy : 0 ≤ y) (hy2 : y ≤ 12) (hz : -1 ≤ z) (hz2 : z ≤ 100)
    (hg : w.cell? ⟨g, 3, none⟩ = some (.map (some b))) (hm : ArcMap w b f) (hf0 : -2000000000 ≤ f x y z) (hf1 : f x y z ≤ 2000000000) (hf2 : -2000000000 ≤ f y x z) (hf3 : f y x z ≤ 2000000000) :
    Calls Try.prog 119 #[.pointer (some ⟨g, 0, none⟩), .agg #[.int .i64 x, .int .i64 y, .int .i64 z], .int .i64 n] w fun e w' => e = .returned (.tuple #[]) ∧ ArcMap w' b (pushF f x y z n) ∧ 
      MapOnly b (w.alloc (.cells #[.int .i64 x, .int .i64 y, .int .i64 z] 112)) w' := by
  have hgl := World.block_lt_of_cell? w _ hg
  have hkey : ∃ l, keyOf Try.prog 112 (arcV x y z) = some l := arc_key _ _ _ (wf_i64 ⟨by omega, by omega⟩) (wf_i64 ⟨by omega, by omega⟩) (wf_i64 ⟨by omega, by omega⟩)
  have hkey' : ∃ l, keyOf Try.prog 112 (arcV y x z) = some l := arc_key _ _ _ (wf_i64 ⟨by omega, by omega⟩) (wf_i64 ⟨by omega, by omega⟩) (wf_i64 ⟨by omega, by omega⟩)
  have hma : ArcMap (w.alloc (.cells #[.int .i64 x, .int .i64 y, .int .i64 z] 112)) b f := hm.of_block (Below.heap_alloc _ _ _ hm.lt)
  obtain ⟨v0, st, w1, w2, hl, he, hl1, hs, ho1, hm2, ho2⟩ := bump_runs hma hkey (f x y z - n)
  obtain ⟨f1, hf1e⟩ : ∃ f1, f1 = upd f x y z (f x y z - n) := ⟨_, rfl⟩
  have hb0 : -4000000000 ≤ f1 y x z := by rw [hf1e]; unfold upd; split <;> omega
  have hb1 : f1 y x z ≤ 2000000000 := by rw [hf1e]; unfold upd; split <;> omega
  rw [← hf1e] at hm2
  obtain ⟨u0, st', w3, w4, kl, ke, kl1, ks, ko1, km2, ko2⟩ := bump_runs hm2 hkey' (f1 y x z + n)
  have hg1 : w1.cell? ⟨g, 3, none⟩ = some (.map (some b)) := ((ho1.cell _).trans (World.cell?_alloc_lt w _ _ hgl)).trans hg
  have hg2 : w2.cell? ⟨g, 3, none⟩ = some (.map (some b)) := ((ho2.cell _).trans (World.cell?_alloc_lt w _ _ hgl)).trans hg
  have hg3 : w3.cell? ⟨g, 3, none⟩ = some (.map (some b)) := (ko1.cell _).trans hg2
  have ha0 : w1.cell? ⟨w.heap.size, 0, none⟩ = some (.int .i64 x) := by rw [ho1.cell]; simp
  have ha1 : w1.cell? ⟨w.heap.size, 1, none⟩ = some (.int .i64 y) := by rw [ho1.cell]; simp
  have ha2 : w1.cell? ⟨w.heap.size, 2, none⟩ = some (.int .i64 z) := by rw [ho1.cell]; simp
  have hc0 : w2.cell? ⟨w.heap.size, 0, none⟩ = some (.int .i64 x) := by rw [ho2.cell]; simp
  have hc1 : w2.cell? ⟨w.heap.size, 1, none⟩ = some (.int .i64 y) := by rw [ho2.cell]; simp
  have hc2 : w2.cell? ⟨w.heap.size, 2, none⟩ = some (.int .i64 z) := by rw [ho2.cell]; simp
  have hd0 : w3.cell? ⟨w.heap.size, 0, none⟩ = some (.int .i64 x) := (ko1.cell _).trans hc0
  have hd1 : w3.cell? ⟨w.heap.size, 1, none⟩ = some (.int .i64 y) := (ko1.cell _).trans hc1
  have hd2 : w3.cell? ⟨w.heap.size, 2, none⟩ = some (.int .i64 z) := (ko1.cell _).trans hc2
  have HM := Lib.hid km2
  have HO := Lib.hid (ho2.trans ko2)
  have HF := Lib.hid hf1e
  clear hm2 ho2 ho1 hm hkey hkey' km2 ko1 ko2 hma hf1e
  go_enter Try.func119, Try.ntmps119
  go_wp2_with fail
  go_region
  go_wp2_with fail
  go_region
  go_end0
  refine ⟨rfl, ?_, HO.out⟩
  have := HM.out
  rw [HF.out] at this
  exact this
end
end Go.Proofs.Ytkloaeaepjoijaa
namespace Go.Proofs.Ytkloaeaepjoijaa
section
open Go.RowKit Go.WalkArith
theorem min_two (B : Nat) (a c : Int) (w : World) (h0 : w.cell? ⟨B, 0, none⟩ = some (.int .i64 a)) (h1 : w.cell? ⟨B, 1, none⟩ = some (.int .i64 c)) :
    Calls Try.prog 121 #[.slice (some ⟨B, 0, none⟩) 2 2] w fun e w' => e = .returned (.int .i64 (min a c)) ∧ w = w' := by
  go_enter Try.func121, Try.ntmps121
  go_wp2
  go_loop [3, 4] (fun m i => ∃ k : Nat, (k = 1 ∨ k = 2) ∧ i = .int .i64 k ∧ m = .int .i64 (if k = 1 then a else min a c)) (fun _ i => 2 - (intOf i).toNat)
  case atStart => exact ⟨1, .inl rfl, rfl, rfl⟩
  case round =>
    obtain ⟨k, hk, rfl, rfl⟩ := hrel
    rcases hk with rfl | rfl
    · simp only [if_true]
      go_wp2
      go_round
      case rel => exact ⟨2, .inr rfl, rfl, by simp; rw [Int.min_def]; split <;> split <;> omega⟩
      case measure => simp [intOf]
    · go_wp2
      go_ret
      exact ⟨rfl, rfl⟩
theorem smallest_two (B : Nat) (a c : Int) (w : World) (h0 : w.cell? ⟨B, 0, none⟩ = some (.int .i64 a)) (h1 : w.cell? ⟨B, 1, none⟩ = some (.int .i64 c)) :
    Calls Try.prog 96 #[.slice (some ⟨B, 0, none⟩) 2 2] w fun e w' => e = .returned (.int .i64 (min a c)) ∧ w = w' := by
  go_enter Try.func96, Try.ntmps96
  go_wp2_with (go_at_call 121; refine (min_two _ _ _ _ h0 h1).mono ?_; rintro e w' ⟨rfl, rfl⟩)
  go_ret
  exact ⟨rfl, rfl⟩
end
end Go.Proofs.Ytkloaeaepjoijaa
namespace Go.Proofs.Ytkloaeaepjoijaa
section
def sumR : Nat → (Nat → Int) → Int
  | 0, _ => 0
  | n + 1, h => sumR n h + h n
theorem sumR_congr {n : Nat} {h k : Nat → Int} (e : ∀ i, i < n → h i = k i) : sumR n h = sumR n k := by
  induction n with
  | zero => rfl
  | succ n ih => simp only [sumR]; rw [ih (fun i hi => e i (by omega)), e n (by omega)]
theorem sumR_add (n : Nat) (h k : Nat → Int) : sumR n (fun i => h i + k i) = sumR n h + sumR n k := by
  induction n with
  | zero => rfl
  | succ n ih => simp only [sumR]; omega
theorem sumR_sub (n : Nat) (h k : Nat → Int) : sumR n (fun i => h i - k i) = sumR n h - sumR n k := by
  induction n with
  | zero => rfl
  | succ n ih => simp only [sumR]; omega
theorem sumR_zero (n : Nat) : sumR n (fun _ => 0) = 0 := by
  induction n with
  | zero => rfl
  | succ n ih => simp only [sumR]; omega
theorem sumR_mul (n : Nat) (c : Int) (h : Nat → Int) : sumR n (fun i => c * h i) = c * sumR n h := by
  induction n with
  | zero => simp [sumR]
  | succ n ih => simp only [sumR]; rw [ih, Int.mul_add]
theorem sumR_le {n : Nat} {h k : Nat → Int} (e : ∀ i, i < n → h i ≤ k i) : sumR n h ≤ sumR n k := by
  induction n with
  | zero => exact Int.le_refl _
  | succ n ih => simp only [sumR]; have := ih (fun i hi => e i (by omega)); have := e n (by omega); omega
theorem sumR_nonneg {n : Nat} {h : Nat → Int} (e : ∀ i, i < n → 0 ≤ h i) : 0 ≤ sumR n h := by
  have := sumR_le (n := n) (h := fun _ => 0) (k := h) e
  rw [sumR_zero] at this
  exact this
theorem sumR_one {n k : Nat} (hk : k < n) (h : Nat → Int) (a : Int) : sumR n (fun i => if i = k then a else h i) = sumR n h + (a - h k) := by
  induction n with
  | zero => omega
  | succ n ih =>
    simp only [sumR]
    by_cases e : k = n
    · subst e
      rw [sumR_congr (k := h) (fun i hi => if_neg (by omega)), if_pos rfl]
      omega
    · rw [ih (by omega), if_neg (by omega)]
      omega
theorem sumR_comm (m n : Nat) (h : Nat → Nat → Int) : sumR m (fun i => sumR n (fun j => h i j)) = sumR n (fun j => sumR m (fun i => h i j)) := by
  induction m with
  | zero => simp only [sumR]; rw [sumR_zero]
  | succ m ih => simp only [sumR]; rw [ih, ← sumR_add]
/-- What can still flow from a node, along all arcs. -/
def outR (len : Nat) (f : Int → Int → Int → Int) (v : Int) : Int := sumR 13 (fun u => sumR (len + 1) (fun j => f v u ((j : Int) - 1)))
theorem outR_upd (len : Nat) (f : Int → Int → Int → Int) (x y z a v : Int) (hy : 0 ≤ y) (hy2 : y < 13) (hz : -1 ≤ z) (hz2 : z < (len : Int)) :
    outR len (upd f x y z a) v = outR len f v + (if v = x then a - f x y z else 0) := by
  by_cases e : v = x
  · subst e
    rw [if_pos rfl]
    unfold outR
    have h1 : ∀ u : Nat, sumR (len + 1) (fun j => upd f v y z a v u ((j : Int) - 1)) = if u = y.toNat then sumR (len + 1) (fun j => f v y ((j : Int) - 1)) + (a - f v y z) else sumR (len + 1) (fun j => f v u ((j : Int) - 1)) := by
      intro u
      split
      · rename_i hu
        have hu' : (u : Int) = y := by omega
        have := sumR_one (n := len + 1) (k := (z + 1).toNat) (by omega) (fun j => f v y ((j : Int) - 1)) a
        rw [show ((((z + 1).toNat : Nat) : Int) - 1) = z by omega] at this
        rw [← this]
        refine sumR_congr fun j _ => ?_
        unfold upd
        rw [hu']
        by_cases hj : j = (z + 1).toNat
        · rw [if_pos ⟨rfl, rfl, by omega⟩, if_pos hj]
        · rw [if_neg (fun h => hj (by omega)), if_neg hj]
      · rename_i hu
        refine sumR_congr fun j _ => ?_
        unfold upd
        rw [if_neg (fun h => hu (by omega))]
    rw [sumR_congr (fun u _ => h1 u), sumR_one (k := y.toNat) (by omega) (fun u => sumR (len + 1) (fun j => f v u ((j : Int) - 1)))]
    rw [show ((y.toNat : Nat) : Int) = y by omega]
    omega
  · rw [if_neg e]
    unfold outR
    rw [Int.add_zero]
    refine sumR_congr fun u _ => sumR_congr fun j _ => ?_
    unfold upd
    rw [if_neg (fun h => e h.1)]
/-- What a walk that comes through does: 'got' flows from src to the last node (12), along arcs that touch no node of s. -/
structure Aug (len : Nat) (s : Int → Bool) (src got : Int) (f f' : Int → Int → Int → Int) : Prop where
  nn : ∀ x y z, 0 ≤ f' x y z
  pair : ∀ x y z, f' x y z + f' y x z = f x y z + f y x z
  keep : ∀ x y z, (s x = true ∨ s y = true) → f' x y z = f x y z
  bal : ∀ v : Int, outR len f v - outR len f' v = (if v = src then got else 0) - (if v = 12 then got else 0)
theorem Aug.last (len : Nat) (s : Int → Bool) (got : Int) (f : Int → Int → Int → Int) (hf : ∀ x y z, 0 ≤ f x y z) : Aug len s 12 got f f :=
  ⟨hf, fun _ _ _ => rfl, fun _ _ _ _ => rfl, fun v => by omega⟩
theorem pushF_at (f : Int → Int → Int → Int) (x y z n a b c : Int) (hxy : x ≠ y) :
    pushF f x y z n a b c = if a = x ∧ b = y ∧ c = z then f x y z - n else if a = y ∧ b = x ∧ c = z then f y x z + n else f a b c := by
  unfold pushF upd
  by_cases h1 : a = y ∧ b = x ∧ c = z
  · obtain ⟨rfl, rfl, rfl⟩ := h1
    rw [if_pos ⟨rfl, rfl, rfl⟩, if_neg (fun h => hxy h.2.1), if_neg (fun h => hxy h.2.1), if_pos ⟨rfl, rfl, rfl⟩]
  · rw [if_neg h1, if_neg h1]
theorem Aug.push {len : Nat} {s s1 : Int → Bool} {src to i got : Int} {f f1 : Int → Int → Int → Int} (hf : ∀ x y z, 0 ≤ f x y z)
    (h : Aug len s1 to got f f1) (hss : ∀ v, s v = true → s1 v = true) (hs1 : s1 src = true) (hsrc : s src = false) (hto : s1 to = false)
    (h0 : 0 ≤ src) (h1 : src < 13) (h2 : 0 ≤ to) (h3 : to < 13) (h4 : -1 ≤ i) (h5 : i < (len : Int)) (hg0 : 0 ≤ got) (hg : got ≤ f src to i) :
    Aug len s src got f (pushF f1 src to i got) := by
  have hne : src ≠ to := fun e => by rw [e, hto] at hs1; cases hs1
  have hk : f1 src to i = f src to i := h.keep _ _ _ (.inl hs1)
  have hto' : s to = false := by
    cases e : s to with
    | false => rfl
    | true => rw [hss _ e] at hto; cases hto
  refine ⟨fun x y z => ?_, fun x y z => ?_, fun x y z hxy => ?_, fun v => ?_⟩
  · rw [pushF_at _ _ _ _ _ _ _ _ hne]
    split
    · omega
    · split
      · have := h.nn to src i; omega
      · exact h.nn _ _ _
  · have hp := h.pair x y z
    rw [pushF_at _ _ _ _ _ _ _ _ hne, pushF_at _ _ _ _ _ _ _ _ hne]
    by_cases e1 : x = src ∧ y = to ∧ z = i
    · obtain ⟨rfl, rfl, rfl⟩ := e1
      rw [if_pos ⟨rfl, rfl, rfl⟩, if_neg (fun h => hne h.2.1), if_pos ⟨rfl, rfl, rfl⟩]
      omega
    · rw [if_neg e1]
      by_cases e2 : x = to ∧ y = src ∧ z = i
      · obtain ⟨rfl, rfl, rfl⟩ := e2
        rw [if_pos ⟨rfl, rfl, rfl⟩, if_pos ⟨rfl, rfl, rfl⟩]
        omega
      · rw [if_neg e2, if_neg (fun h => e2 ⟨h.2.1, h.1, h.2.2⟩), if_neg (fun h => e1 ⟨h.2.1, h.1, h.2.2⟩)]
        exact hp
  · rw [pushF_at _ _ _ _ _ _ _ _ hne, if_neg, if_neg]
    · exact h.keep _ _ _ (hxy.imp (hss _) (hss _))
    · rintro ⟨rfl, rfl, rfl⟩
      rw [hsrc, hto'] at hxy
      simp at hxy
    · rintro ⟨rfl, rfl, rfl⟩
      rw [hsrc, hto'] at hxy
      simp at hxy
  · have hb := h.bal v
    unfold pushF
    rw [outR_upd _ _ _ _ _ _ _ h0 h1 h4 h5, outR_upd _ _ _ _ _ _ _ h2 h3 h4 h5]
    (repeat' split at hb) <;> (repeat' split) <;> omega
end
end Go.Proofs.Ytkloaeaepjoijaa
namespace Go.Proofs.Ytkloaeaepjoijaa
section
theorem sumR_neg (n : Nat) (h : Nat → Int) : sumR n (fun i => - h i) = - sumR n h := by
  induction n with
  | zero => rfl
  | succ n ih => simp only [sumR]; omega
theorem sumR_shift (n : Nat) (h : Nat → Int) : sumR (n + 1) h = h 0 + sumR n (fun i => h (i + 1)) := by
  induction n with
  | zero => simp [sumR]
  | succ n ih =>
    have : sumR (n + 1 + 1) h = sumR (n + 1) h + h (n + 1) := rfl
    rw [this, ih]
    simp only [sumR]
    omega
/-- One term alone. -/
theorem sumR_only {n k : Nat} (hk : k < n) (a : Int) : sumR n (fun i => if i = k then a else 0) = a := by
  have := sumR_one hk (fun _ => 0) a
  rw [sumR_zero] at this
  rw [this]; omega
theorem sumR_eq_zero {n : Nat} {h : Nat → Int} (h0 : ∀ i, i < n → 0 ≤ h i) (hs : sumR n h ≤ 0) : ∀ i, i < n → h i = 0 := by
  induction n with
  | zero => intro i hi; omega
  | succ n ih =>
    simp only [sumR] at hs
    have h1 := sumR_nonneg (n := n) (h := h) (fun i hi => h0 i (by omega))
    have h2 := h0 n (by omega)
    intro i hi
    by_cases e : i = n
    · subst e; omega
    · exact ih (fun i hi => h0 i (by omega)) (by omega) i (by omega)
/-- All arcs together, weighed. -/
def sum3 (len : Nat) (h : Nat → Nat → Nat → Int) : Int := sumR 13 fun u => sumR 13 fun v => sumR (len + 1) fun j => h u v j
theorem sum3_congr {len : Nat} {h k : Nat → Nat → Nat → Int} (e : ∀ u v j, u < 13 → v < 13 → j < len + 1 → h u v j = k u v j) : sum3 len h = sum3 len k :=
  sumR_congr fun u hu => sumR_congr fun v hv => sumR_congr fun j hj => e u v j hu hv hj
theorem sum3_add (len : Nat) (h k : Nat → Nat → Nat → Int) : sum3 len (fun u v j => h u v j + k u v j) = sum3 len h + sum3 len k := by
  unfold sum3
  rw [← sumR_add]
  refine sumR_congr fun u _ => ?_
  rw [← sumR_add]
  refine sumR_congr fun v _ => ?_
  rw [← sumR_add]
theorem sum3_swap (len : Nat) (h : Nat → Nat → Nat → Int) : sum3 len (fun u v j => h v u j) = sum3 len h := by
  unfold sum3
  rw [sumR_comm]
def chi (b : Bool) : Int := if b then 1 else 0
theorem chi_split (a b : Bool) (x : Int) : chi a * x = chi a * chi (!b) * x + chi a * chi b * x := by cases a <;> cases b <;> simp [chi]
theorem chi_high (a b : Bool) (lo hi : Int) : (if (a && !b) = true then hi else if (b && !a) = true then -lo else 0) = chi a * chi (!b) * (hi - lo) - (chi b - chi a) * lo := by cases a <;> cases b <;> simp [chi] <;> omega
theorem chi_low (a b : Bool) (lo hi : Int) : (if (!a && !!b) = true then lo else if (!b && !!a) = true then -hi else 0) = -(chi a * chi (!b) * (hi - lo)) - (chi (!b) - chi (!a)) * lo := by cases a <;> cases b <;> simp [chi] <;> omega
theorem chi_part (b : Bool) (x : Int) : x = chi (!b) * x + chi b * x := by cases b <;> simp [chi]
theorem chi_apart (b : Bool) : chi b * chi (!b) = 0 := by cases b <;> simp [chi]
theorem chi_not (b : Bool) (x : Int) : chi b * x = x - chi (!b) * x := by cases b <;> simp [chi]
/-- What flows over a cut: all that is due, less what was left. -/
theorem cut_sum {len : Nat} {f0 f : Int → Int → Int → Int} {S : Int → Bool} {sum : Int}
    (pair : ∀ x y z, f x y z + f y x z = f0 x y z + f0 y x z)
    (bal : ∀ v : Int, outR len f0 v - outR len f v = (if v = 11 then sum else 0) - (if v = 12 then sum else 0))
    (h11 : S 11 = true) (h12 : S 12 = false)
    (closed : ∀ u v : Nat, ∀ j : Nat, u < 13 → v < 13 → j < len + 1 → S u = true → S v = false → f u v ((j : Int) - 1) = 0) :
    sum = sum3 len (fun u v j => chi (S u) * chi (!S v) * f0 u v ((j : Int) - 1)) := by
  have key : ∀ g : Int → Int → Int → Int, sumR 13 (fun u => chi (S u) * outR len g u) =
      sum3 len (fun u v j => chi (S u) * chi (!S v) * g u v ((j : Int) - 1)) + sum3 len (fun u v j => chi (S u) * chi (S v) * g u v ((j : Int) - 1)) := by
    intro g
    rw [← sum3_add]
    unfold sum3 outR
    refine sumR_congr fun u _ => ?_
    rw [← sumR_mul]
    refine sumR_congr fun v _ => ?_
    rw [← sumR_mul]
    refine sumR_congr fun j _ => ?_
    exact chi_split _ _ _
  have sym : ∀ g : Int → Int → Int → Int, 2 * sum3 len (fun u v j => chi (S u) * chi (S v) * g u v ((j : Int) - 1)) =
      sum3 len (fun u v j => chi (S u) * chi (S v) * (g u v ((j : Int) - 1) + g v u ((j : Int) - 1))) := by
    intro g
    have h1 : sum3 len (fun u v j => chi (S u) * chi (S v) * (g u v ((j : Int) - 1) + g v u ((j : Int) - 1))) =
        sum3 len (fun u v j => chi (S u) * chi (S v) * g u v ((j : Int) - 1)) + sum3 len (fun u v j => chi (S u) * chi (S v) * g v u ((j : Int) - 1)) := by
      rw [← sum3_add]
      exact sum3_congr fun u v j _ _ _ => by rw [Int.mul_add]
    have h2 : sum3 len (fun u v j => chi (S u) * chi (S v) * g v u ((j : Int) - 1)) = sum3 len (fun u v j => chi (S u) * chi (S v) * g u v ((j : Int) - 1)) := by
      rw [← sum3_swap len (fun u v j => chi (S u) * chi (S v) * g u v ((j : Int) - 1))]
      exact sum3_congr fun u v j _ _ _ => by rw [Int.mul_comm (chi (S (u : Int)))]
    rw [h1, h2]; omega
  have inner : sum3 len (fun u v j => chi (S u) * chi (S v) * f u v ((j : Int) - 1)) = sum3 len (fun u v j => chi (S u) * chi (S v) * f0 u v ((j : Int) - 1)) := by
    have e1 := sym f
    have e2 := sym f0
    have e3 : sum3 len (fun u v j => chi (S u) * chi (S v) * (f u v ((j : Int) - 1) + f v u ((j : Int) - 1))) = sum3 len (fun u v j => chi (S u) * chi (S v) * (f0 u v ((j : Int) - 1) + f0 v u ((j : Int) - 1))) :=
      sum3_congr fun u v j _ _ _ => by rw [pair]
    omega
  have out0 : sum3 len (fun u v j => chi (S u) * chi (!S v) * f u v ((j : Int) - 1)) = 0 := by
    rw [sum3_congr (k := fun _ _ _ => 0)]
    · unfold sum3; rw [sumR_congr (k := fun _ => 0)]
      · exact sumR_zero _
      · intro u _; rw [sumR_congr (k := fun _ => 0)]
        · exact sumR_zero _
        · intro v _; exact sumR_zero _
    · intro u v j hu hv hj
      cases hSu : S u with
      | false => simp [chi]
      | true =>
        cases hSv : S v with
        | true => simp [chi]
        | false => rw [closed u v j hu hv hj hSu hSv]; simp
  have k0 := key f0
  have k1 := key f
  have tot : sumR 13 (fun u => chi (S u) * outR len f0 u) - sumR 13 (fun u => chi (S u) * outR len f u) = sum := by
    rw [← sumR_sub]
    rw [sumR_congr (k := fun u => if u = 11 then sum else 0)]
    · exact sumR_only (by omega) _
    · intro u hu
      rw [← Int.mul_sub, bal]
      by_cases e : u = 11
      · subst e; simp [h11, chi]
      · rw [if_neg (by omega), if_neg e]
        by_cases e2 : u = 12
        · subst e2; simp [h12, chi]
        · rw [if_neg (by omega)]; simp
  omega
/-- What can flow at first. -/
def initF (len : Nat) (fr to cap give : Int → Int) (x y z : Int) : Int :=
  if z = -1 then (if x = 11 ∧ 0 ≤ y ∧ y ≤ 10 then max 0 (give y) else if y = 12 ∧ 0 ≤ x ∧ x ≤ 10 then max 0 (-give x) else 0)
  else if 0 ≤ z ∧ z < (len : Int) ∧ x = fr z ∧ y = to z ∧ fr z ≠ to z then cap z else 0
section
variable {len : Nat} {fr to cap give : Int → Int}
theorem sumR_map_only {n : Nat} {k : Int} (hk0 : 0 ≤ k) (hk : k < (n : Int)) (a : Int → Int) : sumR n (fun i => if (i : Int) = k then a i else 0) = a k := by
  have := sumR_only (n := n) (k := k.toNat) (by omega) (a k)
  rw [← this]
  refine sumR_congr fun i _ => ?_
  by_cases e : (i : Int) = k
  · rw [if_pos e, if_pos (by omega), e]
  · rw [if_neg e, if_neg (by omega)]
/-- The angles' part of a weighed sum. -/
theorem sum3_angles (hfr : ∀ i, 0 ≤ i → i < (len : Int) → 0 ≤ fr i ∧ fr i ≤ 10) (hto : ∀ i, 0 ≤ i → i < (len : Int) → 0 ≤ to i ∧ to i ≤ 10) (p q : Int → Int) (hpq : ∀ v, p v * q v = 0) :
    (sumR 13 fun u => sumR 13 fun v => sumR len fun j => p u * q v * initF len fr to cap give u v ((j + 1 : Nat) - 1)) = sumR len fun j => p (fr j) * q (to j) * cap j := by
  have e1 : (sumR 13 fun u => sumR 13 fun v => sumR len fun j => p u * q v * initF len fr to cap give u v ((j + 1 : Nat) - 1)) =
      sumR len fun j => sumR 13 fun u => sumR 13 fun v => p u * q v * initF len fr to cap give u v ((j + 1 : Nat) - 1) := by
    rw [sumR_comm len 13 (fun j u => sumR 13 fun v => p u * q v * initF len fr to cap give u v ((j + 1 : Nat) - 1))]
    refine sumR_congr fun u _ => ?_
    rw [sumR_comm]
  rw [e1]
  refine sumR_congr fun j hj => ?_
  have hf := hfr j (by omega) (by omega)
  have ht := hto j (by omega) (by omega)
  have e2 : (sumR 13 fun u => sumR 13 fun v => p u * q v * initF len fr to cap give u v ((j + 1 : Nat) - 1)) =
      sumR 13 fun u => if (u : Int) = fr j then (fun x => sumR 13 fun v => if (v : Int) = to j then (fun y => p x * q y * cap j) v else 0) u else 0 := by
    refine sumR_congr fun u _ => ?_
    by_cases eu : (u : Int) = fr j
    · rw [if_pos eu]
      refine sumR_congr fun v _ => ?_
      by_cases ev : (v : Int) = to j
      · rw [if_pos ev]
        dsimp only
        unfold initF
        rw [show ((j + 1 : Nat) : Int) - 1 = j by omega, if_neg (by omega)]
        by_cases e : fr j = to j
        · rw [if_neg (fun h => h.2.2.2.2 e), eu, ev, ← e, hpq]; simp
        · rw [if_pos ⟨by omega, by omega, eu, ev, e⟩]
      · rw [if_neg ev]
        unfold initF
        rw [show ((j + 1 : Nat) : Int) - 1 = j by omega, if_neg (by omega), if_neg (fun h => ev h.2.2.2.1), Int.mul_zero]
    · rw [if_neg eu, sumR_congr (k := fun _ => 0)]
      · exact sumR_zero _
      · intro v _
        unfold initF
        rw [show ((j + 1 : Nat) : Int) - 1 = j by omega, if_neg (by omega), if_neg (fun h => eu h.2.2.1), Int.mul_zero]
  rw [e2, sumR_map_only hf.1 (by omega) (fun x => sumR 13 fun v => if (v : Int) = to j then (fun y => p x * q y * cap j) v else 0), sumR_map_only ht.1 (by omega) (fun y => p (fr j) * q y * cap j)]
/-- What the arcs from first and to last bear over a cut. -/
theorem sum_ends (S : Int → Bool) (h11 : S 11 = true) (h12 : S 12 = false) :
    (sumR 13 fun u => sumR 13 fun v => chi (S u) * chi (!S v) * initF len fr to cap give u v ((0 : Nat) - 1)) =
      sumR 11 (fun v => chi (!S v) * max 0 (give v)) + sumR 11 (fun u => chi (S u) * max 0 (-give u)) := by
  have row : ∀ u : Nat, u < 11 → (sumR 13 fun v => chi (S u) * chi (!S v) * initF len fr to cap give u v ((0 : Nat) - 1)) = chi (S u) * max 0 (-give u) := by
    intro u hu
    rw [sumR_congr (k := fun v => if v = 12 then chi (S u) * max 0 (-give u) else 0)]
    · exact sumR_only (by omega) _
    · intro v hv
      unfold initF
      rw [if_pos (by omega), if_neg (fun h => by omega)]
      by_cases e : v = 12
      · subst e
        rw [if_pos ⟨rfl, by omega, by omega⟩, if_pos rfl]
        have : (!S ((12 : Nat) : Int)) = true := by rw [show ((12 : Nat) : Int) = 12 from rfl, h12]; rfl
        rw [this]; simp [chi]
      · rw [if_neg (fun h => by omega), if_neg e, Int.mul_zero]
  have row11 : (sumR 13 fun v => chi (S (11 : Nat)) * chi (!S v) * initF len fr to cap give (11 : Nat) v ((0 : Nat) - 1)) = sumR 11 (fun v => chi (!S v) * max 0 (give v)) := by
    have : ∀ h : Nat → Int, sumR 13 h = sumR 11 h + h 11 + h 12 := fun _ => rfl
    rw [this]
    have e1 : (sumR 11 fun v => chi (S (11 : Nat)) * chi (!S v) * initF len fr to cap give (11 : Nat) v ((0 : Nat) - 1)) = sumR 11 (fun v => chi (!S v) * max 0 (give v)) := by
      refine sumR_congr fun v hv => ?_
      unfold initF
      rw [if_pos (by omega), if_pos ⟨by omega, by omega, by omega⟩, show ((11 : Nat) : Int) = 11 from rfl, h11]
      simp [chi]
    have e2 : initF len fr to cap give (11 : Nat) (11 : Nat) ((0 : Nat) - 1) = 0 := by
      unfold initF; rw [if_pos (by omega), if_neg (fun h => by omega), if_neg (fun h => by omega)]
    have e3 : initF len fr to cap give (11 : Nat) (12 : Nat) ((0 : Nat) - 1) = 0 := by
      unfold initF; rw [if_pos (by omega), if_neg (fun h => by omega), if_neg (fun h => by omega)]
    rw [e1, e2, e3]; omega
  have row12 : (sumR 13 fun v => chi (S (12 : Nat)) * chi (!S v) * initF len fr to cap give (12 : Nat) v ((0 : Nat) - 1)) = 0 := by
    rw [sumR_congr (k := fun _ => 0)]
    · exact sumR_zero _
    · intro v _; rw [show ((12 : Nat) : Int) = 12 from rfl, h12]; simp [chi]
  have : ∀ h : Nat → Int, sumR 13 h = sumR 11 h + h 11 + h 12 := fun _ => rfl
  rw [this (fun u => sumR 13 fun v => chi (S u) * chi (!S v) * initF len fr to cap give u v ((0 : Nat) - 1)), row11, row12, sumR_congr row]
  omega
/-- What is due, less what flows, is what a cut lets through too little. -/
theorem cut_due {f : Int → Int → Int → Int} {S : Int → Bool} {sum : Int}
    (hfr : ∀ i, 0 ≤ i → i < (len : Int) → 0 ≤ fr i ∧ fr i ≤ 10) (hto : ∀ i, 0 ≤ i → i < (len : Int) → 0 ≤ to i ∧ to i ≤ 10)
    (pair : ∀ x y z, f x y z + f y x z = initF len fr to cap give x y z + initF len fr to cap give y x z)
    (bal : ∀ v : Int, outR len (initF len fr to cap give) v - outR len f v = (if v = 11 then sum else 0) - (if v = 12 then sum else 0))
    (h11 : S 11 = true) (h12 : S 12 = false)
    (closed : ∀ u v : Nat, ∀ j : Nat, u < 13 → v < 13 → j < len + 1 → S u = true → S v = false → f u v ((j : Int) - 1) = 0) :
    sumR 11 (fun v => max 0 (give v)) - sum = sumR 11 (fun v => chi (S v) * give v) - sumR len (fun j => chi (S (fr j)) * chi (!S (to j)) * cap j) := by
  have h1 := cut_sum pair bal h11 h12 closed
  have h2 : sum3 len (fun u v j => chi (S u) * chi (!S v) * initF len fr to cap give u v ((j : Int) - 1)) =
      (sumR 13 fun u => sumR 13 fun v => chi (S u) * chi (!S v) * initF len fr to cap give u v ((0 : Nat) - 1)) +
      (sumR 13 fun u => sumR 13 fun v => sumR len fun j => chi (S u) * chi (!S v) * initF len fr to cap give u v ((j + 1 : Nat) - 1)) := by
    unfold sum3
    rw [← sumR_add]
    refine sumR_congr fun u _ => ?_
    rw [← sumR_add]
    refine sumR_congr fun v _ => ?_
    rw [sumR_shift]
  have h3 := sum_ends (len := len) (fr := fr) (to := to) (cap := cap) (give := give) S h11 h12
  have h4 := sum3_angles (cap := cap) (give := give) hfr hto (fun v => chi (S v)) (fun v => chi (!S v)) (fun v => chi_apart _)
  have h5 : sumR 11 (fun v => max 0 (give v)) = sumR 11 (fun v => chi (!S v) * max 0 (give v)) + sumR 11 (fun v => chi (S v) * max 0 (give v)) := by
    rw [← sumR_add]
    refine sumR_congr fun v _ => ?_
    exact chi_part _ _
  have h6 : sumR 11 (fun v => chi (S v) * give v) = sumR 11 (fun v => chi (S v) * max 0 (give v)) - sumR 11 (fun u => chi (S u) * max 0 (-give u)) := by
    rw [← sumR_sub]
    refine sumR_congr fun v _ => ?_
    rw [← Int.mul_sub]
    congr 1
    omega
  omega
end
/-- Which node an angle leads from, and to. -/
def nodeOf (i base : Int) : Int := if i = -1 then 10 else base + i
/-- What a node gives, ahead of all angles. -/
def base (T C : Int) (v : Int) : Int := if 0 ≤ v ∧ v < T then 36 else if 5 ≤ v ∧ v < 5 + C then -72 else 0
/-- What a node gives if all angles are at the Lo of their rooms. -/
def give9 (len : Nat) (T C : Int) (fr to lo : Int → Int) (v : Int) : Int :=
  base T C v + sumR len (fun i => (if to i = v then lo i else 0) - (if fr i = v then lo i else 0))
def giveN (len : Nat) (T C : Int) (fr to lo : Int → Int) (v : Int) : Int :=
  if v = 10 then - sumR 10 (fun u => give9 len T C fr to lo u) else give9 len T C fr to lo v
/-- The ends of what angles bear over a cut, and the difference that they must bear. -/
def lowM (len : Nat) (fr to lo hi : Int → Int) (m : Int → Bool) : Int := sumR len fun i => if m (fr i) && !m (to i) then lo i else if m (to i) && !m (fr i) then -hi i else 0
def highM (len : Nat) (fr to lo hi : Int → Int) (m : Int → Bool) : Int := sumR len fun i => if m (fr i) && !m (to i) then hi i else if m (to i) && !m (fr i) then -lo i else 0
def diffM (T C : Int) (m : Int → Bool) : Int := sumR 10 fun v => chi (m v) * base T C v
section
variable {len : Nat} {T C : Int} {fr to lo hi : Int → Int}
theorem sum_give9 (hfr : ∀ i, 0 ≤ i → i < (len : Int) → 0 ≤ fr i ∧ fr i ≤ 10) (hto : ∀ i, 0 ≤ i → i < (len : Int) → 0 ≤ to i ∧ to i ≤ 10) (m : Int → Bool) (hm : m 10 = false) :
    sumR 10 (fun v => chi (m v) * give9 len T C fr to lo v) = diffM T C m + sumR len (fun i => (chi (m (to i)) - chi (m (fr i))) * lo i) := by
  have e1 : sumR 10 (fun v => chi (m v) * give9 len T C fr to lo v) = diffM T C m + sumR 10 (fun v => sumR len (fun i => chi (m v) * ((if to i = v then lo i else 0) - (if fr i = v then lo i else 0)))) := by
    unfold diffM
    rw [← sumR_add]
    refine sumR_congr fun v _ => ?_
    unfold give9
    rw [Int.mul_add, sumR_mul]
  rw [e1, sumR_comm]
  congr 1
  refine sumR_congr fun i hi' => ?_
  have h1 := hfr i (by omega) (by omega)
  have h2 := hto i (by omega) (by omega)
  have one : ∀ x : Int, 0 ≤ x → x ≤ 10 → sumR 10 (fun v => chi (m v) * (if x = v then lo i else 0)) = chi (m x) * lo i := by
    intro x hx0 hx1
    by_cases e : x = 10
    · subst e
      rw [hm, sumR_congr (k := fun _ => 0)]
      · rw [sumR_zero]; simp [chi]
      · intro v hv; rw [if_neg (by omega)]; simp
    · have := sumR_map_only (n := 10) (k := x) hx0 (by omega) (fun v => chi (m v) * lo i)
      rw [← this]
      refine sumR_congr fun v _ => ?_
      by_cases ev : x = v
      · rw [if_pos ev, if_pos ev.symm]
      · rw [if_neg ev, if_neg (fun h => ev h.symm), Int.mul_zero]
  have e2 : sumR 10 (fun v => chi (m v) * ((if to i = v then lo i else 0) - (if fr i = v then lo i else 0))) = sumR 10 (fun v => chi (m v) * (if to i = v then lo i else 0)) - sumR 10 (fun v => chi (m v) * (if fr i = v then lo i else 0)) := by
    rw [← sumR_sub]
    exact sumR_congr fun v _ => by rw [Int.mul_sub]
  rw [e2, one _ h2.1 h2.2, one _ h1.1 h1.2, Int.sub_mul]
/-- What can still be reached when less than what is due flows denies: of both sides the one without the free node. -/
theorem cut_denies {f : Int → Int → Int → Int} {S m : Int → Bool} {sum : Int}
    (hfr : ∀ i, 0 ≤ i → i < (len : Int) → 0 ≤ fr i ∧ fr i ≤ 10) (hto : ∀ i, 0 ≤ i → i < (len : Int) → 0 ≤ to i ∧ to i ≤ 10)
    (pair : ∀ x y z, f x y z + f y x z = initF len fr to (fun i => hi i - lo i) (giveN len T C fr to lo) x y z + initF len fr to (fun i => hi i - lo i) (giveN len T C fr to lo) y x z)
    (bal : ∀ v : Int, outR len (initF len fr to (fun i => hi i - lo i) (giveN len T C fr to lo)) v - outR len f v = (if v = 11 then sum else 0) - (if v = 12 then sum else 0))
    (h11 : S 11 = true) (h12 : S 12 = false)
    (closed : ∀ u v : Nat, ∀ j : Nat, u < 13 → v < 13 → j < len + 1 → S u = true → S v = false → f u v ((j : Int) - 1) = 0)
    (hlt : sum < sumR 11 (fun v => max 0 (giveN len T C fr to lo v))) (hm : ∀ v, m v = (S v == !S 10)) :
    diffM T C m < lowM len fr to lo hi m ∨ highM len fr to lo hi m < diffM T C m := by
  have hd := cut_due hfr hto pair bal h11 h12 closed
  have hm10 : m 10 = false := by rw [hm]; cases S 10 <;> rfl
  have hg := sum_give9 (T := T) (C := C) (lo := lo) hfr hto m hm10
  have h10 : sumR 11 (fun v => chi (S v) * giveN len T C fr to lo v) = sumR 10 (fun v => chi (S v) * give9 len T C fr to lo v) - chi (S 10) * sumR 10 (fun u => give9 len T C fr to lo u) := by
    have : ∀ h : Nat → Int, sumR 11 h = sumR 10 h + h 10 := fun _ => rfl
    rw [this]
    have e1 : sumR 10 (fun v => chi (S v) * giveN len T C fr to lo v) = sumR 10 (fun v => chi (S v) * give9 len T C fr to lo v) :=
      sumR_congr fun v hv => by unfold giveN; rw [if_neg (by omega)]
    have e2 : giveN len T C fr to lo ((10 : Nat) : Int) = - sumR 10 (fun u => give9 len T C fr to lo u) := by unfold giveN; rw [if_pos (by omega)]
    rw [e1, e2]
    rw [show (((10 : Nat) : Int)) = 10 from rfl, Int.mul_neg]
    omega
  cases hS : S 10 with
  | false =>
    right
    have hmS : ∀ v, m v = S v := fun v => by rw [hm, hS]; cases S v <;> rfl
    rw [hS] at h10
    have e1 : sumR 10 (fun v => chi (S v) * give9 len T C fr to lo v) = sumR 10 (fun v => chi (m v) * give9 len T C fr to lo v) := sumR_congr fun v _ => by rw [hmS]
    have e2 : highM len fr to lo hi m = sumR len (fun j => chi (S (fr j)) * chi (!S (to j)) * (hi j - lo j)) - sumR len (fun i => (chi (m (to i)) - chi (m (fr i))) * lo i) := by
      unfold highM
      rw [← sumR_sub]
      refine sumR_congr fun i _ => ?_
      rw [hmS, hmS]
      exact chi_high _ _ _ _
    simp only [chi, Bool.false_eq_true, if_false] at h10
    simp only [chi] at *
    omega
  | true =>
    left
    have hmS : ∀ v, m v = !S v := fun v => by rw [hm, hS]; cases S v <;> rfl
    rw [hS] at h10
    have e1 : sumR 10 (fun v => chi (S v) * give9 len T C fr to lo v) = sumR 10 (fun u => give9 len T C fr to lo u) - sumR 10 (fun v => chi (m v) * give9 len T C fr to lo v) := by
      rw [← sumR_sub]
      refine sumR_congr fun v _ => ?_
      rw [hmS]
      exact chi_not _ _
    have e2 : lowM len fr to lo hi m = - sumR len (fun j => chi (S (fr j)) * chi (!S (to j)) * (hi j - lo j)) - sumR len (fun i => (chi (m (to i)) - chi (m (fr i))) * lo i) := by
      unfold lowM
      rw [← sumR_neg, ← sumR_sub]
      refine sumR_congr fun i _ => ?_
      rw [hmS, hmS]
      exact chi_low _ _ _ _
    simp only [chi, if_true] at h10
    simp only [chi] at *
    omega
end
end
end Go.Proofs.Ytkloaeaepjoijaa
namespace Go.Proofs.Ytkloaeaepjoijaa
section
open Go.RowKit Go.WalkArith
theorem within_any (n lo hi : Int) (w : World) :
    Calls Try.prog 68 #[.int .i64 n, .int .i64 lo, .int .i64 hi] w fun e w' => e = .returned (.bool (decide (lo ≤ n ∧ n ≤ hi))) ∧ w = w' := by
  by_cases h1 : lo ≤ n
  · by_cases h2 : n ≤ hi
    · go_enter Try.func68, Try.ntmps68
      go_wp2
      go_ret
      exact ⟨by simp [h1, h2], rfl⟩
    · have h2' : decide (n ≤ hi) = false := by simpa using h2
      go_enter Try.func68, Try.ntmps68
      go_wp2
      go_ret
      exact ⟨by simp [h2], rfl⟩
  · have h1' : decide (lo ≤ n) = false := by simpa using h1
    go_enter Try.func68, Try.ntmps68
    go_wp2
    go_ret
    exact ⟨by simp [h1], rfl⟩
theorem node_any (i base : Int) (w : World) (hi0 : -1 ≤ i) (hi1 : i ≤ 1000) (hb0 : 0 ≤ base) (hb1 : base ≤ 1000) :
    Calls Try.prog 97 #[.int .i64 i, .int .i64 base] w fun e w' => e = .returned (.int .i64 (nodeOf i base)) ∧ w = w' := by
  by_cases h : i = -1
  · subst h
    go_enter Try.func97, Try.ntmps97
    go_wp2
    go_ret
    exact ⟨rfl, rfl⟩
  · have hb : (i == -1) = false := by simpa using h
    go_enter Try.func97, Try.ntmps97
    go_wp2
    go_ret
    exact ⟨by simp [nodeOf, h], rfl⟩
/-- An angle, as a net has it. -/
structure Ang where
  t : Int
  c : Int
  r : Int
  g : Int
/-- Its four numbers lie from an address on. -/
def AngAt (W : World) (b o : Nat) (a : Ang) : Prop :=
  W.cell? ⟨b, o, none⟩ = some (.int .i64 a.t) ∧ W.cell? ⟨b, o + 1, none⟩ = some (.int .i64 a.c) ∧ W.cell? ⟨b, o + 2, none⟩ = some (.int .i64 a.r) ∧ W.cell? ⟨b, o + 3, none⟩ = some (.int .i64 a.g)
/-- A slice of angles reads as a list. -/
def AngsAt (W : World) (A : Option Addr) (l : List Ang) : Prop :=
  l = [] ∨ ∃ b o, A = some ⟨b, o, none⟩ ∧ ∀ i (h : i < l.length), AngAt W b (o + i * 4) l[i]
set_option maxRecDepth 100000 in
set_option maxHeartbeats 1000000 in
theorem arc_any (b o n cap : Nat) (T C : Int) (i : Nat) (a : Ang) (w : World) (hi : i < n) (hn : n ≤ 1000) (ha : AngAt w b (o + i * 4) a) (ht0 : -1 ≤ a.t) (ht1 : a.t ≤ 4) (hc0 : -1 ≤ a.c) (hc1 : a.c ≤ 4) :
    Calls Try.prog 69 #[.agg #[.slice (some ⟨b, o, none⟩) n cap, .int .i64 T, .int .i64 C], .int .i64 i] w fun e w' => e = .returned (.agg #[.int .i64 (nodeOf a.t 0), .int .i64 (nodeOf a.c 5), .int .i64 i]) ∧ Below w.heap.size w w' := by
  obtain ⟨h1, h2, _, _⟩ := ha
  have hbl := World.block_lt_of_cell? w _ h1
  have hi0 : (0 : Int) ≤ (i : Int) := by omega
  have hi1 : (i : Int) < (n : Int) := by omega
  go_enter Try.func69, Try.ntmps69
  go_wp2_with fail
  go_region_held3 (fun X => X.cell? ⟨w.heap.size, 0, none⟩ = some (.slice (some ⟨b, o, none⟩) n cap) ∧ X.cell? ⟨b, o + i * 4, none⟩ = some (.int .i64 a.t) ∧ X.cell? ⟨b, o + i * 4 + 1, none⟩ = some (.int .i64 a.c)) (go_keep) (first | (go_at_call 97; refine (node_any _ _ _ (by omega) (by omega) (by omega) (by omega)).mono ?_; rintro e w' ⟨rfl, rfl⟩))
  go_wp2_with fail
  exact bodyPost_ret (v := .agg #[.int .i64 (nodeOf a.t 0), .int .i64 (nodeOf a.c 5), .int .i64 i]) (by simp [results, Try.results69, go_sem]) rfl ⟨rfl, (((Below.refl _ _).alloc (Nat.le_refl _) _).alloc (by simp) _).drew⟩
end
end Go.Proofs.Ytkloaeaepjoijaa
namespace Go.Proofs.Ytkloaeaepjoijaa
section
/-- Six steps that lead from what is sent to what is read, with their errors; 46 a point, 45 a hyphen, 32 a blank. -/
inductive Ex : List Nat → List Nat → Nat → Prop
  | nil : Ex [] [] 0
  | copy {a b c} (x : Nat) : Ex a b c → Ex (a ++ [x]) (b ++ [x]) c
  | miss {a b c} (x : Nat) : Ex a b c → Ex (a ++ [x]) b (c + 1)
  | split {a b c} : Ex a b c → Ex (a ++ [45]) (b ++ [46, 46]) (c + 1)
  | join {a b c} : Ex a b c → Ex (a ++ [46, 46]) (b ++ [45]) (c + 1)
  | gap {a b c} : Ex a b c → Ex a (b ++ [32]) (c + 1)
def far : Int := 1048576
def rdAt (rd : List Nat) (k : Nat) : Nat := rd.getD k 0
/-- The row of nothing that is sent. -/
def begR (rd : List Nat) : Nat → Int
  | 0 => 0
  | k + 1 => if k + 1 ≤ rd.length ∧ rdAt rd k = 32 then min far (begR rd k + 1) else far
/-- The row after one more sign. -/
def sgnR (rd : List Nat) (r before : Nat → Int) (last sign : Nat) : Nat → Int
  | 0 => if 0 ≤ rd.length then min (r 0 + 1) far else far
  | k + 1 => if rd.length < k + 1 then far else
      let o1 := r (k + 1) + 1
      let o2 := if rdAt rd k = sign then min o1 (r k) else o1
      let o3 := if 0 < k ∧ sign = 45 ∧ rdAt rd (k - 1) = 46 ∧ rdAt rd k = 46 then min o2 (r (k - 1) + 1) else o2
      let o4 := if sign = 46 ∧ last = 46 ∧ rdAt rd k = 45 then min o3 (before k + 1) else o3
      let o5 := if rdAt rd k = 32 then min o4 (sgnR rd r before last sign k + 1) else o4
      min o5 far
/-- The row after all signs, the last one first. -/
def rowR (rd : List Nat) : List Nat → Nat → Int
  | [] => begR rd
  | [x] => sgnR rd (begR rd) (fun _ => 0) 32 x
  | x :: y :: a => sgnR rd (rowR rd (y :: a)) (rowR rd a) y x
def befR (rd : List Nat) : List Nat → Nat → Int
  | [] => fun _ => 0
  | _ :: a => rowR rd a
theorem rowR_cons (rd : List Nat) (x : Nat) (a : List Nat) : rowR rd (x :: a) = sgnR rd (rowR rd a) (befR rd a) (a.headD 32) x := by
  cases a with
  | nil => rfl
  | cons y a => rfl
theorem sgnR_far (rd : List Nat) (r before : Nat → Int) (last sign k : Nat) : sgnR rd r before last sign k ≤ far := by
  cases k with
  | zero => simp only [sgnR]; split <;> omega
  | succ k => simp only [sgnR]; split <;> omega
theorem rowR_miss (rd : List Nat) (a : List Nat) (x k : Nat) (hk : k ≤ rd.length) : rowR rd (x :: a) k ≤ rowR rd a k + 1 := by
  cases k with
  | zero => rw [rowR_cons]; simp only [sgnR]; split <;> omega
  | succ k =>
    rw [rowR_cons]
    simp only [sgnR]
    rw [if_neg (by omega)]
    repeat' split
    all_goals omega
theorem rowR_copy (rd : List Nat) (a : List Nat) (x k : Nat) (hk : k + 1 ≤ rd.length) (hx : rdAt rd k = x) : rowR rd (x :: a) (k + 1) ≤ rowR rd a k := by
  rw [rowR_cons]
  simp only [sgnR]
  rw [if_neg (by omega), if_pos hx]
  repeat' split
  all_goals omega
theorem rowR_split (rd : List Nat) (a : List Nat) (k : Nat) (hk : k + 2 ≤ rd.length) (h0 : rdAt rd k = 46) (h1 : rdAt rd (k + 1) = 46) : rowR rd (45 :: a) (k + 2) ≤ rowR rd a k + 1 := by
  rw [rowR_cons]
  simp only [sgnR, Nat.add_sub_cancel, h0, h1]
  repeat' split
  all_goals first | omega | simp_all
theorem rowR_join (rd : List Nat) (a : List Nat) (k : Nat) (hk : k + 1 ≤ rd.length) (h0 : rdAt rd k = 45) : rowR rd (46 :: 46 :: a) (k + 1) ≤ rowR rd a k + 1 := by
  rw [rowR_cons]
  simp only [sgnR, befR, List.headD_cons, h0]
  repeat' split
  all_goals first | omega | simp_all
theorem rowR_gap (rd : List Nat) (a : List Nat) (k : Nat) (hk : k + 1 ≤ rd.length) (h0 : rdAt rd k = 32) : rowR rd a (k + 1) ≤ rowR rd a k + 1 := by
  cases a with
  | nil =>
    simp only [rowR, begR]
    rw [if_pos ⟨hk, h0⟩]; omega
  | cons x a =>
    rw [rowR_cons]
    simp only [sgnR]
    rw [if_neg (by omega), if_pos h0]
    repeat' split
    all_goals omega
theorem take_snoc {rd b : List Nat} {x k : Nat} (h : rd.take k = b ++ [x]) (hk : k ≤ rd.length) : 0 < k ∧ rd.take (k - 1) = b ∧ rdAt rd (k - 1) = x := by
  have hl : k = b.length + 1 := by have := congrArg List.length h; rw [List.length_take, Nat.min_eq_left hk] at this; simpa using this
  subst hl
  refine ⟨by omega, ?_, ?_⟩
  · rw [Nat.add_sub_cancel]
    have := congrArg (List.take b.length) h
    rwa [List.take_take, Nat.min_eq_left (by omega), List.take_left'] at this
    rfl
  · rw [Nat.add_sub_cancel]
    have h2 : (rd.take (b.length + 1))[b.length]? = some x := by rw [h]; simp
    rw [List.getElem?_take_of_lt (by omega)] at h2
    simp [rdAt, h2]
/-- What steps explain has no more errors in the row. -/
theorem ex_row {rd a b : List Nat} {c : Nat} (h : Ex a b c) : ∀ k, k ≤ rd.length → rd.take k = b → rowR rd a.reverse k ≤ c := by
  induction h with
  | nil =>
    intro k hk h
    have : k = 0 := by have := congrArg List.length h; rw [List.length_take, Nat.min_eq_left hk] at this; simpa using this
    subst this
    simp [rowR, begR]
  | @copy a b c x _ ih =>
    intro k hk h
    obtain ⟨h0, h1, h2⟩ := take_snoc h hk
    have := ih (k - 1) (by omega) h1
    rw [List.reverse_append, List.reverse_singleton, List.singleton_append]
    have h3 := rowR_copy rd a.reverse x (k - 1) (by omega) h2
    rw [show k - 1 + 1 = k by omega] at h3
    exact Int.le_trans h3 this
  | @miss a b c x _ ih =>
    intro k hk h
    have := ih k hk h
    rw [List.reverse_append, List.reverse_singleton, List.singleton_append]
    have h3 := rowR_miss rd a.reverse x k hk
    exact Int.le_trans h3 (by omega)
  | @split a b c _ ih =>
    intro k hk h
    rw [show b ++ [46, 46] = (b ++ [46]) ++ [46] by simp] at h
    obtain ⟨h0, h1, h2⟩ := take_snoc h hk
    obtain ⟨g0, g1, g2⟩ := take_snoc h1 (by omega)
    have := ih (k - 1 - 1) (by omega) g1
    rw [List.reverse_append, List.reverse_singleton, List.singleton_append]
    have h3 := rowR_split rd a.reverse (k - 2) (by omega) (by rw [show k - 2 = k - 1 - 1 by omega]; exact g2) (by rw [show k - 2 + 1 = k - 1 by omega]; exact h2)
    rw [show k - 2 + 2 = k by omega, show k - 2 = k - 1 - 1 by omega] at h3
    exact Int.le_trans h3 (by omega)
  | @join a b c _ ih =>
    intro k hk h
    obtain ⟨h0, h1, h2⟩ := take_snoc h hk
    have := ih (k - 1) (by omega) h1
    rw [List.reverse_append]
    have h3 := rowR_join rd a.reverse (k - 1) (by omega) h2
    rw [show k - 1 + 1 = k by omega] at h3
    exact Int.le_trans h3 (by omega)
  | @gap a b c _ ih =>
    intro k hk h
    obtain ⟨h0, h1, h2⟩ := take_snoc h hk
    have := ih (k - 1) (by omega) h1
    have h3 := rowR_gap rd a.reverse (k - 1) (by omega) h2
    rw [show k - 1 + 1 = k by omega] at h3
    exact Int.le_trans h3 (by omega)
theorem snoc_split {s u v : List Nat} {x : Nat} (h : s ++ [x] = u ++ v) (hv : v ≠ []) : ∃ v', v = v' ++ [x] ∧ s = u ++ v' := by
  obtain ⟨v', y, rfl⟩ : ∃ v' y, v = v' ++ [y] := ⟨v.dropLast, v.getLast hv, (List.dropLast_concat_getLast hv).symm⟩
  rw [← List.append_assoc] at h
  obtain ⟨h1, h2⟩ := List.append_inj' h rfl
  obtain rfl : x = y := by simpa using h2
  exact ⟨v', rfl, h1⟩
/-- What steps explain is explained up to a letter's end, too. -/
theorem ex_cut {s b : List Nat} {c : Nat} (h : Ex s b c) : ∀ u v, s = u ++ v → (v = [] ∨ v.head? = some 32) → ∃ b1 c1, b1 <+: b ∧ Ex u b1 c1 ∧ c1 ≤ c := by
  have hend : ∀ {s b : List Nat} {c : Nat}, Ex s b c → ∀ u, s = u → ∃ b1 c1, b1 <+: b ∧ Ex u b1 c1 ∧ c1 ≤ c := fun h u e => ⟨_, _, List.prefix_refl _, e ▸ h, Nat.le_refl _⟩
  have hhd : ∀ (v' : List Nat) (x : Nat), (v' ++ [x]).head? = some 32 → v' = [] ∨ v'.head? = some 32 := fun v' x h => by
    cases v' with
    | nil => exact .inl rfl
    | cons y ys => exact .inr (by simpa using h)
  induction h with
  | nil =>
    intro u v h _
    have h := h.symm
    rw [List.append_eq_nil_iff] at h
    exact ⟨[], 0, List.prefix_refl _, h.1 ▸ .nil, Nat.le_refl _⟩
  | @copy a b c x hx ih =>
    intro u v h hv
    by_cases e : v = []
    · exact hend (.copy x hx) u (by rw [h, e, List.append_nil])
    · obtain ⟨v', rfl, h2⟩ := snoc_split h e
      obtain ⟨b1, c1, p1, p2, p3⟩ := ih u v' h2 (hhd v' x (hv.resolve_left e))
      exact ⟨b1, c1, p1.trans (List.prefix_append _ _), p2, p3⟩
  | @miss a b c x hx ih =>
    intro u v h hv
    by_cases e : v = []
    · exact hend (.miss x hx) u (by rw [h, e, List.append_nil])
    · obtain ⟨v', rfl, h2⟩ := snoc_split h e
      obtain ⟨b1, c1, p1, p2, p3⟩ := ih u v' h2 (hhd v' x (hv.resolve_left e))
      exact ⟨b1, c1, p1, p2, by omega⟩
  | @split a b c hx ih =>
    intro u v h hv
    by_cases e : v = []
    · exact hend (.split hx) u (by rw [h, e, List.append_nil])
    · obtain ⟨v', rfl, h2⟩ := snoc_split h e
      obtain ⟨b1, c1, p1, p2, p3⟩ := ih u v' h2 (hhd v' 45 (hv.resolve_left e))
      exact ⟨b1, c1, p1.trans (List.prefix_append _ _), p2, by omega⟩
  | @join a b c hx ih =>
    intro u v h hv
    by_cases e : v = []
    · exact hend (.join hx) u (by rw [h, e, List.append_nil])
    · rw [show a ++ [46, 46] = (a ++ [46]) ++ [46] by simp] at h
      obtain ⟨v', rfl, h2⟩ := snoc_split h e
      by_cases e2 : v' = []
      · subst e2
        have := hv.resolve_left e
        simp at this
      · obtain ⟨v2, rfl, h3⟩ := snoc_split h2 e2
        have h4 : (v2 ++ [46]).head? = some 32 := (hhd _ 46 (hv.resolve_left e)).resolve_left e2
        obtain ⟨b1, c1, p1, p2, p3⟩ := ih u v2 h3 (hhd v2 46 h4)
        exact ⟨b1, c1, p1.trans (List.prefix_append _ _), p2, by omega⟩
  | @gap a b c hx ih =>
    intro u v h hv
    obtain ⟨b1, c1, p1, p2, p3⟩ := ih u v h hv
    exact ⟨b1, c1, p1.trans (List.prefix_append _ _), p2, by omega⟩
/-- The signs of one more letter; of a text. -/
def sg1 (cs : List (List Nat)) (text : List Nat) (n : Nat) : List Nat := if text = [] then cs.getD n [] else 32 :: cs.getD n []
def sgT (cs : List (List Nat)) : List Nat → List Nat → List Nat
  | _, [] => []
  | pre, n :: t => sg1 cs pre n ++ sgT cs (pre ++ [n]) t
/-- No more signs can explain what is read. -/
def hopB (rd : List Nat) (e : Int) (row : Nat → Int) : Bool := !(List.range (rd.length + 1)).any fun k => decide (row k ≤ e)
def txL (cs : List (List Nat)) (rd : List Nat) (e : Int) : Nat → List Nat → List Nat → List (List Nat)
  | 0, text, a => if hopB rd e (rowR rd a) then [] else if rowR rd a rd.length ≤ e then [text] else []
  | m + 1, text, a => if hopB rd e (rowR rd a) then [] else (List.range cs.length).flatMap fun n => txL cs rd e m (text ++ [n]) ((sg1 cs text n).reverse ++ a)
theorem tx_has {cs : List (List Nat)} {rd : List Nat} {e : Int} {c : Nat} (he : (c : Int) ≤ e) : ∀ (t pre u : List Nat), (∀ n ∈ t, n < cs.length) → Ex (u ++ sgT cs pre t) rd c → (u ≠ [] → pre ≠ []) → (pre ++ t) ∈ txL cs rd e t.length pre u.reverse := by
  have hno : ∀ (t pre u : List Nat), Ex (u ++ sgT cs pre t) rd c → (sgT cs pre t = [] ∨ (sgT cs pre t).head? = some 32 ∨ u = []) → hopB rd e (rowR rd u.reverse) = false := by
    intro t pre u h hv
    have : ∃ b1 c1, b1 <+: rd ∧ Ex u b1 c1 ∧ c1 ≤ c := by
      rcases hv with hv | hv | hv
      · exact ex_cut h u _ rfl (.inl hv)
      · exact ex_cut h u _ rfl (.inr hv)
      · subst hv; exact ⟨[], 0, List.nil_prefix, .nil, Nat.zero_le _⟩
    obtain ⟨b1, c1, ⟨b2, hb⟩, h1, h2⟩ := this
    have hl : b1.length ≤ rd.length := by rw [← hb]; simp
    have h3 := ex_row (rd := rd) h1 b1.length hl (by rw [← hb]; simp)
    unfold hopB
    rw [Bool.not_eq_false', List.any_eq_true]
    exact ⟨b1.length, List.mem_range.2 (by omega), by simp; omega⟩
  intro t
  induction t with
  | nil =>
    intro pre u _ h _
    have h1 := hno [] pre u h (.inl rfl)
    simp only [List.length_nil, txL, h1, Bool.false_eq_true, if_false]
    have h2 := ex_row (rd := rd) (show Ex u rd c by simpa [sgT] using h) rd.length (Nat.le_refl _) (List.take_length)
    rw [if_pos (by omega)]
    simp
  | cons n t ih =>
    intro pre u hn h hu
    have hv : sgT cs pre (n :: t) = [] ∨ (sgT cs pre (n :: t)).head? = some 32 ∨ u = [] := by
      by_cases e : u = []
      · exact .inr (.inr e)
      · have := hu e
        right; left
        simp [sgT, sg1, this]
    have h1 := hno (n :: t) pre u h hv
    simp only [List.length_cons, txL, h1, Bool.false_eq_true, if_false, List.mem_flatMap, List.mem_range]
    refine ⟨n, hn n (by simp), ?_⟩
    have h2 := ih (pre ++ [n]) (u ++ sg1 cs pre n) (fun m hm => hn m (by simp [hm])) (by simpa [sgT, List.append_assoc] using h) (fun _ => by simp)
    rw [List.reverse_append] at h2
    simpa using h2
/-- All texts of at most so many letters. -/
def textsL (cs : List (List Nat)) (rd : List Nat) (e : Int) (m : Nat) : List (List Nat) := (List.range (m + 1)).flatMap fun n => txL cs rd e n [] []
theorem texts_has {cs : List (List Nat)} {rd : List Nat} {e : Int} {c m : Nat} (he : (c : Int) ≤ e) {t : List Nat} (hn : ∀ n ∈ t, n < cs.length) (hm : t.length ≤ m) (h : Ex (sgT cs [] t) rd c) : t ∈ textsL cs rd e m := by
  unfold textsL
  rw [List.mem_flatMap]
  refine ⟨t.length, List.mem_range.2 (by omega), ?_⟩
  have := tx_has he t [] [] hn (by simpa using h) (fun h => absurd rfl h)
  simpa using this
theorem txL_ok {cs : List (List Nat)} {rd : List Nat} {e : Int} : ∀ (m : Nat) (text a : List Nat), (∀ n ∈ text, n < cs.length) → ∀ t, t ∈ txL cs rd e m text a → t.length = text.length + m ∧ ∀ n ∈ t, n < cs.length := by
  intro m
  induction m with
  | zero =>
    intro text a h t ht
    simp only [txL] at ht
    split at ht
    · simp at ht
    · split at ht
      · obtain rfl := List.mem_singleton.1 ht
        exact ⟨rfl, h⟩
      · simp at ht
  | succ m ih =>
    intro text a h t ht
    simp only [txL] at ht
    split at ht
    · simp at ht
    · rw [List.mem_flatMap] at ht
      obtain ⟨n, hn, ht⟩ := ht
      have hn := List.mem_range.1 hn
      obtain ⟨h1, h2⟩ := ih (text ++ [n]) _ (fun x hx => by
        rcases List.mem_append.1 hx with hx | hx
        · exact h x hx
        · simp at hx; omega) t ht
      exact ⟨by rw [h1]; simp; omega, h2⟩
theorem ex_signs {a b : List Nat} {c : Nat} (h : Ex a b c) (ha : ∀ x ∈ a, x = 46 ∨ x = 45 ∨ x = 32) : ∀ x ∈ b, x = 46 ∨ x = 45 ∨ x = 32 := by
  induction h with
  | nil => intro x hx; simp at hx
  | @copy a b c y _ ih =>
    intro x hx
    rcases List.mem_append.1 hx with hx | hx
    · exact ih (fun z hz => ha z (by simp [hz])) x hx
    · simp at hx; subst hx; exact ha x (by simp)
  | @miss a b c y _ ih => exact ih (fun z hz => ha z (by simp [hz]))
  | split _ ih =>
    intro x hx
    rcases List.mem_append.1 hx with hx | hx
    · exact ih (fun z hz => ha z (by simp [hz])) x hx
    · simp at hx; omega
  | join _ ih =>
    intro x hx
    rcases List.mem_append.1 hx with hx | hx
    · exact ih (fun z hz => ha z (by simp [hz])) x hx
    · simp at hx; omega
  | gap _ ih =>
    intro x hx
    rcases List.mem_append.1 hx with hx | hx
    · exact ih ha x hx
    · simp at hx; omega
end
end Go.Proofs.Ytkloaeaepjoijaa
namespace Go.Proofs.Ytkloaeaepjoijaa
section
open Go.RowKit Go.WalkArith
/-- A string's bytes. -/
def nl (s : ByteArray) : List Nat := s.toList.map UInt8.toNat
theorem nl_len (s : ByteArray) : (nl s).length = s.size := by unfold nl; rw [List.length_map, ByteArray.toList_eq, Array.length_toList]; rfl
theorem nl_app (a b : ByteArray) : nl (a ++ b) = nl a ++ nl b := by unfold nl; rw [ByteArray.toList_eq, ByteArray.toList_eq, ByteArray.toList_eq, ByteArray.data_append, Array.toList_append, List.map_append]
theorem nl_ext (s : ByteArray) (i j : Nat) : nl (s.extract i j) = ((nl s).drop i).take (j - i) := by
  obtain ⟨⟨l⟩⟩ := s
  rw [ByteArray.extract_mk]
  unfold nl
  rw [ByteArray.toList_eq, ByteArray.toList_eq, List.map_take, List.map_drop]
theorem nl_at (s : ByteArray) (i : Nat) (h : i < s.size) : (nl s)[i]? = some (s[i]).toNat := by
  unfold nl
  rw [List.getElem?_map, ByteArray.toList_eq]
  rw [Array.getElem?_toList]
  have : s.data[i]? = some s[i] := Array.getElem?_eq_getElem (show i < s.data.size from h)
  rw [this]; rfl
theorem nl_inj {a b : ByteArray} (h : nl a = nl b) : a.toList = b.toList := by
  unfold nl at h
  refine List.map_inj_right (f := UInt8.toNat) ?_ |>.1 h
  intro x y e
  exact UInt8.toNat_inj.1 e
theorem str_eq (a b : ByteArray) : (a.toList == b.toList) = decide (nl a = nl b) := by
  rw [Bool.eq_iff_iff, beq_iff_eq, decide_eq_true_eq]
  exact ⟨fun h => by unfold nl; rw [h], nl_inj⟩
theorem nl_zero (s : ByteArray) : nl s = [] ↔ s.size = 0 := by rw [← List.length_eq_zero_iff, nl_len]
theorem ext_all (s : ByteArray) : s.extract 0 s.size = s := by
  obtain ⟨⟨l⟩⟩ := s
  rw [ByteArray.extract_mk]
  simp [ByteArray.size]
theorem nl_cons {s : ByteArray} (h : 0 < s.size) : ∃ x, x < 256 ∧ (∀ h, (s[0]'h).toNat = x) ∧ nl s = x :: nl (s.extract 1 s.size) := by
  refine ⟨s[0].toNat, s[0].toNat_lt, fun _ => rfl, ?_⟩
  have h1 := nl_at s 0 h
  rw [nl_ext]
  cases e : nl s with
  | nil => rw [e] at h1; simp at h1
  | cons y ys =>
    rw [e] at h1
    have h2 := nl_len s
    rw [e] at h2
    simp at h1 h2
    rw [h1]
    simp [List.take_of_length_le, ← h2]
set_option maxRecDepth 100000 in
set_option maxHeartbeats 1000000 in
theorem cost_any (k : Nat) (w : World) : Calls Try.prog 87 #[.int .i64 k] w fun e w' => e = .returned (.int .i64 (if k = 0 then 0 else 1)) ∧ w = w' := by
  by_cases h : k = 0
  · subst h
    go_enter Try.func87, Try.ntmps87
    go_wp2
    go_ret
    exact ⟨rfl, rfl⟩
  · have h1 : ((k : Int) == 0) = false := by simpa using h
    rw [if_neg h]
    clear h
    go_enter Try.func87, Try.ntmps87
    go_wp2
    go_ret
    exact ⟨rfl, rfl⟩
set_option maxRecDepth 100000 in
set_option maxHeartbeats 1000000 in
theorem step0_any (s : ByteArray) (hs : 0 < s.size) (w : World) :
    Calls Try.prog 86 #[.int .i64 0, .string s, .string (s.extract 0 1)] w fun e w' => ∃ l r b, e = .returned (.tuple #[.string l, .string r, .bool b]) ∧ (b = true → ∃ x, nl s = x :: nl l) ∧ Below w.heap.size w w' := by
  have h1 : (1 : Int) ≤ (s.size : Int) := by omega
  have h2 : (0 : Int) < (s.size : Int) := by omega
  obtain ⟨x, x256, hx, hl⟩ := nl_cons hs
  have h0 : (s.toList == []) = false := by
    rw [Bool.eq_false_iff]
    intro h
    have h := eq_of_beq h
    unfold nl at hl
    rw [h] at hl
    cases hl
  have HL := Lib.hid hl
  clear hl
  obtain ⟨W, hW⟩ : ∃ W, s.extract 0 1 = W := ⟨_, rfl⟩
  have hWs : W.size = 1 := by rw [← hW, ← nl_len, nl_ext]; simp [nl_len]; omega
  have hWe : W.extract 0 1 = W := by have := ext_all W; rwa [hWs] at this
  rw [hW]
  go_enter Try.func86, Try.ntmps86
  go_wp2_with fail
  go_quiet (fail)
  go_wp2_with fail
  go_ret3
  exact ⟨_, _, true, rfl, (fun _ => ⟨x, HL.out⟩), ⟨rfl, rfl, rfl, Nat.le_refl _, fun _ _ => rfl⟩⟩
set_option maxRecDepth 100000 in
set_option maxHeartbeats 1000000 in
theorem step1_any (s : ByteArray) (hs : 0 < s.size) (w : World) :
    Calls Try.prog 86 #[.int .i64 1, .string s, .string ⟨#[]⟩] w fun e w' => ∃ l r b, e = .returned (.tuple #[.string l, .string r, .bool b]) ∧ (b = true → ∃ x, nl s = x :: nl l) ∧ Below w.heap.size w w' := by
  have h1 : (1 : Int) ≤ (s.size : Int) := by omega
  have h2 : (0 : Int) < (s.size : Int) := by omega
  obtain ⟨x, x256, hx, hl⟩ := nl_cons hs
  have h0 : (s.toList == []) = false := by
    rw [Bool.eq_false_iff]
    intro h
    have h := eq_of_beq h
    unfold nl at hl
    rw [h] at hl
    cases hl
  have HL := Lib.hid hl
  clear hl
  by_cases e : x = 32
  · have e1 : ((x : Int) == 32) = true := by simp [e]
    have e2 : ((x : Int) != 32) = false := by simp [e]
    clear e
    go_enter Try.func86, Try.ntmps86
    go_wp2_with fail
    go_ret3
    exact ⟨_, _, false, rfl, (fun h => by cases h), Below.refl _ _⟩
  · have e1 : ((x : Int) == 32) = false := by simp; omega
    have e2 : ((x : Int) != 32) = true := by simp; omega
    clear e
    go_enter Try.func86, Try.ntmps86
    go_wp2_with fail
    go_quiet (fail)
    go_wp2_with fail
    go_ret3
    exact ⟨_, _, true, rfl, (fun _ => ⟨x, HL.out⟩), ⟨rfl, rfl, rfl, Nat.le_refl _, fun _ _ => rfl⟩⟩
set_option maxRecDepth 100000 in
set_option maxHeartbeats 1000000 in
theorem step2_any (s : ByteArray) (hs : 0 < s.size) (w : World) :
    Calls Try.prog 86 #[.int .i64 2, .string s, .string ⟨#[46, 46]⟩] w fun e w' => ∃ l r b, e = .returned (.tuple #[.string l, .string r, .bool b]) ∧ (b = true → nl s = 45 :: nl l) ∧ Below w.heap.size w w' := by
  have h1 : (1 : Int) ≤ (s.size : Int) := by omega
  have h2 : (0 : Int) < (s.size : Int) := by omega
  obtain ⟨x, x256, hx, hl⟩ := nl_cons hs
  have h0 : (s.toList == []) = false := by
    rw [Bool.eq_false_iff]
    intro h
    have h := eq_of_beq h
    unfold nl at hl
    rw [h] at hl
    cases hl
  have HL := Lib.hid hl
  clear hl
  have hE : (ByteArray.mk #[46, 46]).extract 0 2 = ByteArray.mk #[46, 46] := by decide
  by_cases e : x = 45
  · have e1 : ((x : Int) == 45) = true := by simp [e]
    have e2 : ((x : Int) != 45) = false := by simp [e]
    rw [e] at HL
    clear e
    go_enter Try.func86, Try.ntmps86
    go_wp2_with fail
    go_quiet (fail)
    go_wp2_with fail
    go_ret3
    exact ⟨_, _, true, rfl, (fun _ => HL.out), ⟨rfl, rfl, rfl, Nat.le_refl _, fun _ _ => rfl⟩⟩
  · have e1 : ((x : Int) == 45) = false := by simp; omega
    have e2 : ((x : Int) != 45) = true := by simp; omega
    clear e
    go_enter Try.func86, Try.ntmps86
    go_wp2_with fail
    go_ret3
    exact ⟨_, _, false, rfl, (fun h => by cases h), Below.refl _ _⟩
set_option maxRecDepth 100000 in
set_option maxHeartbeats 1000000 in
theorem step3_any (s : ByteArray) (hs : 0 < s.size) (w : World) :
    Calls Try.prog 86 #[.int .i64 3, .string s, .string ⟨#[45]⟩] w fun e w' => ∃ l r b, e = .returned (.tuple #[.string l, .string r, .bool b]) ∧ (b = true → nl s = 46 :: 46 :: nl l) ∧ Below w.heap.size w w' := by
  have h1 : (1 : Int) ≤ (s.size : Int) := by omega
  have h2 : (0 : Int) < (s.size : Int) := by omega
  obtain ⟨x, x256, hx, hl⟩ := nl_cons hs
  have h0 : (s.toList == []) = false := by
    rw [Bool.eq_false_iff]
    intro h
    have h := eq_of_beq h
    unfold nl at hl
    rw [h] at hl
    cases hl
  have HL := Lib.hid hl
  clear hl
  have hE : (ByteArray.mk #[45]).extract 0 1 = ByteArray.mk #[45] := by decide
  by_cases h9 : s.size < 2
  · have h8 : decide ((s.size : Int) < 2) = true := by simp; omega
    clear h9
    go_enter Try.func86, Try.ntmps86
    go_wp2_with fail
    go_ret3
    exact ⟨_, _, false, rfl, (fun h => by cases h), Below.refl _ _⟩
  · have h8 : decide ((s.size : Int) < 2) = false := by simp; omega
    have h7 : (2 : Int) ≤ (s.size : Int) := by omega
    obtain ⟨W, hW⟩ : ∃ W, s.extract 0 2 = W := ⟨_, rfl⟩
    have hn : nl W = (nl s).take 2 := by rw [← hW, nl_ext]; simp
    have hq : nl (s.extract 2 s.size) = (nl s).drop 2 := by
      rw [nl_ext]
      refine List.take_of_length_le ?_
      rw [List.length_drop, nl_len]; omega
    cases hc : (W.toList == [46, 46]) with
    | true =>
      have hc2 := eq_of_beq hc
      have hn2 : (nl s).take 2 = [46, 46] := by rw [← hn]; unfold nl; rw [hc2]; rfl
      have HR := Lib.hid (show nl s = 46 :: 46 :: nl (s.extract 2 s.size) by rw [hq]; have := List.take_append_drop 2 (nl s); rw [hn2] at this; exact this.symm)
      have hc3 : (W.toList != [46, 46]) = false := by simp [bne, hc]
      clear hc2 hn2 hn hq h9
      go_enter Try.func86, Try.ntmps86
      go_wp2_with fail
      go_quiet (fail)
      go_wp2_with fail
      go_ret3
      exact ⟨_, _, true, rfl, (fun _ => HR.out), ⟨rfl, rfl, rfl, Nat.le_refl _, fun _ _ => rfl⟩⟩
    | false =>
      have hc3 : (W.toList != [46, 46]) = true := by simp only [bne, hc, Bool.not_false]
      clear hn hq h9
      go_enter Try.func86, Try.ntmps86
      go_wp2_with fail
      go_ret3
      exact ⟨_, _, false, rfl, (fun h => by cases h), Below.refl _ _⟩
set_option maxRecDepth 100000 in
set_option maxHeartbeats 1000000 in
theorem step4_any (s : ByteArray) (hs : 0 < s.size) (w : World) :
    Calls Try.prog 86 #[.int .i64 4, .string s, .string ⟨#[]⟩] w fun e w' => ∃ l r b, e = .returned (.tuple #[.string l, .string r, .bool b]) ∧ (b = true → ∃ x, nl s = x :: nl l) ∧ Below w.heap.size w w' := by
  have h1 : (1 : Int) ≤ (s.size : Int) := by omega
  have h2 : (0 : Int) < (s.size : Int) := by omega
  obtain ⟨x, x256, hx, hl⟩ := nl_cons hs
  have h0 : (s.toList == []) = false := by
    rw [Bool.eq_false_iff]
    intro h
    have h := eq_of_beq h
    unfold nl at hl
    rw [h] at hl
    cases hl
  have HL := Lib.hid hl
  clear hl
  by_cases e : x = 32
  · have e1 : ((x : Int) == 32) = true := by simp [e]
    have e2 : ((x : Int) != 32) = false := by simp [e]
    clear e
    go_enter Try.func86, Try.ntmps86
    go_wp2_with fail
    go_quiet (fail)
    go_wp2_with fail
    go_ret3
    exact ⟨_, _, true, rfl, (fun _ => ⟨x, HL.out⟩), ⟨rfl, rfl, rfl, Nat.le_refl _, fun _ _ => rfl⟩⟩
  · have e1 : ((x : Int) == 32) = false := by simp; omega
    have e2 : ((x : Int) != 32) = true := by simp; omega
    clear e
    go_enter Try.func86, Try.ntmps86
    go_wp2_with fail
    go_ret3
    exact ⟨_, _, false, rfl, (fun h => by cases h), Below.refl _ _⟩
set_option maxRecDepth 100000 in
set_option maxHeartbeats 1000000 in
theorem step5_any (s : ByteArray) (hs : 0 < s.size) (w : World) :
    Calls Try.prog 86 #[.int .i64 5, .string s, .string ⟨#[32]⟩] w fun e w' => ∃ l r b, e = .returned (.tuple #[.string l, .string r, .bool b]) ∧ (b = true → nl s = nl l) ∧ Below w.heap.size w w' := by
  have h1 : (1 : Int) ≤ (s.size : Int) := by omega
  have h2 : (0 : Int) < (s.size : Int) := by omega
  obtain ⟨x, x256, hx, hl⟩ := nl_cons hs
  have h0 : (s.toList == []) = false := by
    rw [Bool.eq_false_iff]
    intro h
    have h := eq_of_beq h
    unfold nl at hl
    rw [h] at hl
    cases hl
  have HL := Lib.hid hl
  clear hl
  have hE : (ByteArray.mk #[32]).extract 0 1 = ByteArray.mk #[32] := by decide
  have hA := ext_all s
  go_enter Try.func86, Try.ntmps86
  go_wp2_with fail
  go_quiet (fail)
  go_wp2_with fail
  go_ret3
  exact ⟨_, _, true, rfl, (fun _ => rfl), ⟨rfl, rfl, rfl, Nat.le_refl _, fun _ _ => rfl⟩⟩
end
end Go.Proofs.Ytkloaeaepjoijaa

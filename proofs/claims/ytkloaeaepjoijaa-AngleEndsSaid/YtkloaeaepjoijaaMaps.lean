/-
  The map of arcs: what a block of type map[arc]int reads as, and the four operations on it.
-/
import Derived.Test.YtkloaeaepjoijaaProg
import Derived.WalkKit
import Derived.WalkSpells
import Derived.WalkLawsBesides
import Derived.WideKeyEntry
import Derived.DeepKeys4
import Derived.KernelRfl
import Derived.Lib.Hide
set_option linter.all false
namespace Go.Proofs.Ytkloaeaepjoijaa
open Go.RowKit Go.MapKept
open Go.ChangeMaps (setBlock)

theorem Try.laidOut : laidOutB Try.prog = true := by kernel_rfl

def arcV (x y z : Int) : Value := .agg #[.int .i64 x, .int .i64 y, .int .i64 z]

theorem arcV_inj {x y z x' y' z' : Int} (h : arcV x y z = arcV x' y' z') : x = x' ∧ y = y' ∧ z = z' := by
  unfold arcV at h
  simpa using h

theorem arc_law : WideMaps.KeyLaw Try.prog 112 :=
  deep_law_laid Try.laidOut (m := 3) (by omega) (by decide +kernel) (by kernel_rfl) (by kernel_rfl)

theorem Try.cells112 : Try.prog.cellsOf 112 = 3 := by kernel_rfl
theorem Try.cells3 : Try.prog.cellsOf 3 = 1 := by kernel_rfl

theorem arc_key (x y z : Int) (hx : (Lit.int .i64 x).wf = true) (hy : (Lit.int .i64 y).wf = true) (hz : (Lit.int .i64 z).wf = true) :
    ∃ l, keyOf Try.prog 112 (arcV x y z) = some l := by
  have hk : Try.prog.keyType 112 = true := by kernel_rfl
  have hd : ∀ d : Nat, Try.prog.keyLits (d + 2) 112 [.int .i64 x, .int .i64 y, .int .i64 z] = some [.int .i64 x, .int .i64 y, .int .i64 z] := by
    intro d
    simp [Program.keyLits, Try.underlying112, Try.cells112, Try.cells3, Try.underlying3, hx, hy, hz]
  have hsz : Try.prog.types.size + 1 = 197 + 2 := by kernel_rfl
  unfold keyOf
  rw [hsz]
  simp only [Try.underlying112, hk, arcV, Value.formed, Value.cells, Try.cells112, hd]
  exact ⟨_, rfl⟩

/-- Block b is a map of arcs that reads as f (0 where there is no entry). -/
def ArcMap (w : World) (b : Nat) (f : Int → Int → Int → Int) : Prop :=
  ∃ es clock, w.heap[b]? = some (.map es clock) ∧
    (∀ e ∈ es.toList, ∃ x y z, e.key = arcV x y z ∧ (∃ l, keyOf Try.prog 112 e.key = some l) ∧ e.val = .int .i64 (f x y z)) ∧
    (es.toList.map (·.key)).Nodup ∧ (∀ e ∈ es.toList, e.born < clock) ∧ (es.toList.map (·.born)).Nodup ∧
    (∀ x y z, (∀ e ∈ es.toList, e.key ≠ arcV x y z) → f x y z = 0)

/-- The entry of a key in block b has this stamp. -/
def ArcEnt (w : World) (b : Nat) (k : Value) (st : Nat) : Prop :=
  ∃ es clock, w.heap[b]? = some (.map es clock) ∧ ∃ e ∈ es.toList, e.key = k ∧ e.born = st

/-- f with one value turned. -/
def upd (f : Int → Int → Int → Int) (x y z v : Int) : Int → Int → Int → Int :=
  fun a b c => if a = x ∧ b = y ∧ c = z then v else f a b c

section
variable {w : World} {b : Nat} {f : Int → Int → Int → Int} {x y z : Int}

theorem ArcMap.lt (h : ArcMap w b f) : b < w.heap.size := by
  obtain ⟨es, clock, hb, _⟩ := h
  exact (Array.getElem?_eq_some_iff.1 hb).1

theorem ArcMap.new (w : World) : ArcMap (w.alloc (.map #[] 0)) w.heap.size (fun _ _ _ => 0) :=
  ⟨#[], 0, heap_alloc_new w _, by simp, by simp, by simp, by simp, fun _ _ _ _ => rfl⟩

theorem ArcMap.of_block {w' : World} (h : ArcMap w b f) (hb : w'.heap[b]? = w.heap[b]?) : ArcMap w' b f := by
  obtain ⟨es, clock, h1, h2⟩ := h
  exact ⟨es, clock, hb.trans h1, h2⟩

theorem ArcEnt.of_block {w' : World} {k : Value} {st : Nat} (h : ArcEnt w b k st) (hb : w'.heap[b]? = w.heap[b]?) : ArcEnt w' b k st := by
  obtain ⟨es, clock, h1, h2⟩ := h
  exact ⟨es, clock, hb.trans h1, h2⟩

theorem zero3 (w : World) : (zeroValue 3).run Try.prog w = .ok (.int .i64 0) w := by kernel_rfl

theorem ArcMap.run_lookup (h : ArcMap w b f) (hk : ∃ l, keyOf Try.prog 112 (arcV x y z) = some l) :
    (Instr.lookup 151 (.map (some b)) (arcV x y z) false).run Try.prog w = .ok (.int .i64 (f x y z)) w := by
  obtain ⟨es, clock, hb, he, hn, hs, hs2, h0⟩ := h
  obtain ⟨l, hl⟩ := hk
  have hu : Try.prog.underlying 151 = some (.map 112 3) := Try.underlying151
  rcases arc_law.find w hl es.toList (fun e hm => (he e hm).elim fun _ h => h.elim fun _ h => h.elim fun _ h => h.2.1) with ⟨h1, h2⟩ | ⟨j, e, h1, h2, h3⟩
  · simp [Instr.lookup, run_underlying hu, MapKept.run_getObj_map hb, arc_law.check w _ hl, h1, zero3, Result.andThen, h0 x y z h2]
  · obtain ⟨x', y', z', hk', _, hv⟩ := he e (List.mem_of_getElem? h2)
    obtain ⟨rfl, rfl, rfl⟩ := arcV_inj (hk'.symm.trans h3)
    simp [Instr.lookup, run_underlying hu, MapKept.run_getObj_map hb, arc_law.check w _ hl, h1, Result.andThen, hv]

theorem cell_setBlock_map {w : World} {b : Nat} {es es' : Array MapEntry} {clock clock' : Nat} (hb : w.heap[b]? = some (.map es clock)) (a : Addr) :
    (setBlock w b (.map es' clock')).cell? a = w.cell? a := by
  unfold World.cell? setBlock
  by_cases e : a.block = b
  · subst e
    have hlt := (Array.getElem?_eq_some_iff.1 hb).1
    rw [hb]
    simp [hlt]
  · simp [Array.getElem?_setIfInBounds, show ¬ b = a.block from fun h => e h.symm]

theorem frozen_setBlock_map {w : World} {b : Nat} {es es' : Array MapEntry} {clock clock' : Nat} (hb : w.heap[b]? = some (.map es clock)) (a : Addr) :
    (setBlock w b (.map es' clock')).frozen? a = w.frozen? a := by
  unfold World.frozen? setBlock
  by_cases e : a.block = b
  · subst e
    have hlt := (Array.getElem?_eq_some_iff.1 hb).1
    rw [hb]
    simp [hlt]
  · simp [Array.getElem?_setIfInBounds, show ¬ b = a.block from fun h => e h.symm]

/-- Only block b has turned, and it was a map and is one. -/
structure MapOnly (b : Nat) (w w' : World) : Prop where
  os : w'.os = w.os
  tape : w'.tape = w.tape
  output : w'.output = w.output
  size : w'.heap.size = w.heap.size
  block : ∀ k, k ≠ b → w'.heap[k]? = w.heap[k]?
  cell : ∀ a, w'.cell? a = w.cell? a
  frozen : ∀ a, w'.frozen? a = w.frozen? a

theorem MapOnly.refl (b : Nat) (w : World) : MapOnly b w w := ⟨rfl, rfl, rfl, rfl, fun _ _ => rfl, fun _ => rfl, fun _ => rfl⟩
theorem MapOnly.trans {b : Nat} {w w' w'' : World} (h : MapOnly b w w') (k : MapOnly b w' w'') : MapOnly b w w'' :=
  ⟨k.os.trans h.os, k.tape.trans h.tape, k.output.trans h.output, k.size.trans h.size, fun i hi => (k.block i hi).trans (h.block i hi), fun a => (k.cell a).trans (h.cell a), fun a => (k.frozen a).trans (h.frozen a)⟩
theorem MapOnly.of_set {w : World} {b : Nat} {es es' : Array MapEntry} {clock clock' : Nat} (hb : w.heap[b]? = some (.map es clock)) : MapOnly b w (setBlock w b (.map es' clock')) :=
  ⟨rfl, rfl, rfl, by simp [setBlock], fun k hk => by simp [setBlock, Array.getElem?_setIfInBounds, show ¬ b = k from fun h => hk h.symm], cell_setBlock_map hb, frozen_setBlock_map hb⟩
theorem MapOnly.below {b B : Nat} {a w w' : World} (h : MapOnly b w w') (hb : Below B a w) (hB : B ≤ b) : Below B a w' :=
  hb.trans ⟨h.os, h.tape, h.output, Nat.le_of_eq h.size.symm, fun k hk => h.block k (by omega)⟩

theorem nodup_entry {l : List MapEntry} (hn : (l.map (·.key)).Nodup) {a c : MapEntry} (ha : a ∈ l) (hc : c ∈ l) (hk : a.key = c.key) : a = c := by
  induction l with
  | nil => cases ha
  | cons d r ih =>
    simp only [List.map_cons, List.nodup_cons] at hn
    rcases List.mem_cons.1 ha with rfl | ha' <;> rcases List.mem_cons.1 hc with rfl | hc'
    · rfl
    · exact absurd (List.mem_map.2 ⟨c, hc', hk.symm⟩) hn.1
    · exact absurd (List.mem_map.2 ⟨a, ha', hk⟩) hn.1
    · exact ih hn.2 ha' hc'

theorem ArcMap.run_mapEntry (h : ArcMap w b f) (hk : ∃ l, keyOf Try.prog 112 (arcV x y z) = some l) :
    ∃ v0 st w', (Instr.mapEntry 151 (.map (some b)) (arcV x y z)).run Try.prog w = .ok (.tuple #[v0, .int .i64 (st : Nat)]) w' ∧
      ArcMap w' b f ∧ ArcEnt w' b (arcV x y z) st ∧ MapOnly b w w' := by
  obtain ⟨es, clock, hb, he, hn, hs, hs2, h0⟩ := h
  have hk0 := hk
  obtain ⟨l, hl⟩ := hk
  have hlt := (Array.getElem?_eq_some_iff.1 hb).1
  have hu : Try.prog.underlying 151 = some (.map 112 3) := Try.underlying151
  rcases arc_law.find w hl es.toList (fun e hm => (he e hm).elim fun _ h => h.elim fun _ h => h.elim fun _ h => h.2.1) with ⟨h1, h2⟩ | ⟨j, e, h1, h2, h3⟩
  · refine ⟨.int .i64 0, clock, setBlock w b (.map (es.push ⟨arcV x y z, .int .i64 0, clock⟩) (clock + 1)), ?_, ?_, ?_, MapOnly.of_set hb⟩
    · simp [Instr.mapEntry, run_underlying hu, MapKept.run_getObj_map hb, arc_law.check w false hl, h1, zero3, MapKept.run_setObj_map _ hb, Result.andThen, setBlock, goInt]
    · refine ⟨es.push ⟨arcV x y z, .int .i64 0, clock⟩, clock + 1, by simp [setBlock, hlt], ?_, ?_, ?_, ?_, ?_⟩
      · intro e hm
        simp only [Array.toList_push, List.mem_append, List.mem_singleton] at hm
        rcases hm with hm | rfl
        · exact he e hm
        · exact ⟨x, y, z, rfl, hk0, by rw [h0 x y z h2]⟩
      · simp only [Array.toList_push, List.map_append, List.map_cons, List.map_nil]
        refine List.nodup_append.2 ⟨hn, by simp, fun a ha c hc e1 => ?_⟩
        simp only [List.mem_singleton] at hc
        obtain ⟨u, hu1, rfl⟩ := List.mem_map.1 ha
        exact h2 u hu1 (e1.trans hc)
      · intro e hm
        simp only [Array.toList_push, List.mem_append, List.mem_singleton] at hm
        rcases hm with hm | rfl
        · have := hs e hm; omega
        · simp
      · simp only [Array.toList_push, List.map_append, List.map_cons, List.map_nil]
        refine List.nodup_append.2 ⟨hs2, by simp, fun a ha c hc e1 => ?_⟩
        simp only [List.mem_singleton] at hc
        obtain ⟨u, hu1, rfl⟩ := List.mem_map.1 ha
        have := hs u hu1
        omega
      · intro x' y' z' hx'
        exact h0 x' y' z' fun e hm => hx' e (by simp only [Array.toList_push, List.mem_append]; exact .inl hm)
    · exact ⟨_, _, by simp [setBlock, hlt]; exact ⟨rfl, rfl⟩, ⟨arcV x y z, .int .i64 0, clock⟩, by simp, rfl, rfl⟩
  · have hj : es[j]? = some e := by simpa using h2
    have hsame : es.modify j (fun e => { e with key := arcV x y z }) = es := by
      apply Array.ext'
      rw [Array.toList_modify, Go.ChangeMaps.modify_eq_set _ _ _ _ h2]
      have : ({ e with key := arcV x y z } : MapEntry) = e := by rw [← h3]
      rw [this]
      exact Go.WideElems.set_self _ _ _ h2
    have hself : setBlock w b (.map es clock) = w := by
      unfold setBlock
      have : w.heap.setIfInBounds b (.map es clock) = w.heap := by
        apply Array.ext'
        rw [Array.toList_setIfInBounds]
        exact Go.WideElems.set_self _ _ _ (by simpa using hb)
      rw [this]
    refine ⟨e.val, e.born, w, ?_, ⟨es, clock, hb, he, hn, hs, hs2, h0⟩, ⟨es, clock, hb, e, List.mem_of_getElem? h2, h3, rfl⟩, MapOnly.refl _ _⟩
    have hr := MapKept.run_setObj_map (P := Try.prog) (.map es clock) hb
    rw [show ({ w with heap := w.heap.setIfInBounds b (.map es clock) } : World) = w from hself] at hr
    simp [Instr.mapEntry, run_underlying hu, MapKept.run_getObj_map hb, arc_law.check w false hl, h1, hj, h3, arc_law.stays w hl, hsame, hr, Result.andThen, goInt]

theorem arcMap_modify {es : Array MapEntry} {clock : Nat} (hb : w.heap[b]? = some (.map es clock))
    (he : ∀ e ∈ es.toList, ∃ x y z, e.key = arcV x y z ∧ (∃ l, keyOf Try.prog 112 e.key = some l) ∧ e.val = .int .i64 (f x y z))
    (hn : (es.toList.map (·.key)).Nodup) (hs : ∀ e ∈ es.toList, e.born < clock) (hs2 : (es.toList.map (·.born)).Nodup)
    (h0 : ∀ x y z, (∀ e ∈ es.toList, e.key ≠ arcV x y z) → f x y z = 0) {j : Nat} {e0 : MapEntry} (hj' : es.toList[j]? = some e0) (hkey0 : e0.key = arcV x y z) (v : Int) :
    ArcMap (setBlock w b (.map (es.modify j fun e => { e with val := .int .i64 v }) clock)) b (upd f x y z v) := by
  have hlt := (Array.getElem?_eq_some_iff.1 hb).1
  have hm0 : e0 ∈ es.toList := List.mem_of_getElem? hj'
  obtain ⟨hjl, hj⟩ := List.getElem?_eq_some_iff.1 hj'
  have hl : (es.modify j fun e => { e with val := Value.int .i64 v }).toList = es.toList.set j { e0 with val := .int .i64 v } := by
    rw [Array.toList_modify, Go.ChangeMaps.modify_eq_set _ _ _ _ hj']
  have hmk : (es.toList.set j { e0 with val := .int .i64 v }).map (·.key) = es.toList.map (·.key) := by
    rw [List.map_set]
    exact Go.WideElems.set_self _ _ _ (by rw [List.getElem?_map, hj']; rfl)
  have hmb : (es.toList.set j { e0 with val := .int .i64 v }).map (·.born) = es.toList.map (·.born) := by
    rw [List.map_set]
    exact Go.WideElems.set_self _ _ _ (by rw [List.getElem?_map, hj']; rfl)
  refine ⟨_, clock, by simp [setBlock, hlt]; rfl, ?_, by rw [hl, hmk]; exact hn, ?_, by rw [hl, hmb]; exact hs2, ?_⟩
  · intro e hm
    rw [hl] at hm
    rcases List.mem_or_eq_of_mem_set hm with hm1 | rfl
    · obtain ⟨x', y', z', hk', hk2, hv⟩ := he e hm1
      refine ⟨x', y', z', hk', hk2, ?_⟩
      unfold upd
      split
      · rename_i hc
        obtain ⟨rfl, rfl, rfl⟩ := hc
        have hee : e = e0 := nodup_entry hn hm1 hm0 (hk'.trans hkey0.symm)
        subst hee
        have hnd : (es.toList.set j { e with val := .int .i64 v }).Nodup := by
          have : ((es.toList.set j { e with val := .int .i64 v }).map (·.key)).Nodup := by rw [hmk]; exact hn
          exact List.Pairwise.of_map (·.key) (fun a b hab hab2 => hab (by rw [hab2])) this
        -- e lies at j alone in the old list; in the new one j holds the new entry
        obtain ⟨i, hil, hi⟩ := List.getElem_of_mem hm
        by_cases hij : i = j
        · subst hij
          rw [List.getElem_set_self] at hi
          rw [← hi]
        · rw [List.getElem_set_ne (fun h => hij h.symm)] at hi
          have hil' : i < es.toList.length := by simpa using hil
          have hkn : (es.toList.map (·.key))[i]'(by simpa using hil') = (es.toList.map (·.key))[j]'(by simpa using hjl) := by
            simp only [List.getElem_map]
            rw [hi, hj]
          exact absurd ((List.getElem_inj hn).1 hkn) hij
      · exact hv
    · obtain ⟨x', y', z', hk', hk2, hv⟩ := he e0 hm0
      obtain ⟨rfl, rfl, rfl⟩ := arcV_inj (hk'.symm.trans hkey0)
      exact ⟨x', y', z', hk', hk2, by simp [upd]⟩
  · intro e hm
    rw [hl] at hm
    rcases List.mem_or_eq_of_mem_set hm with hm1 | rfl
    · exact hs e hm1
    · exact hs e0 hm0
  · intro x' y' z' hx'
    rw [hl] at hx'
    have hmem : ({ e0 with val := .int .i64 v } : MapEntry) ∈ es.toList.set j { e0 with val := .int .i64 v } := List.mem_set hjl _
    have hne := hx' _ hmem
    have hne' : ¬ (x' = x ∧ y' = y ∧ z' = z) := by
      rintro ⟨rfl, rfl, rfl⟩
      exact hne hkey0
    unfold upd
    rw [if_neg hne']
    refine h0 x' y' z' fun e hm he' => ?_
    have : e.key ∈ (es.toList.set j { e0 with val := .int .i64 v }).map (·.key) := by rw [hmk]; exact List.mem_map.2 ⟨e, hm, rfl⟩
    obtain ⟨e2, hm2, hk2⟩ := List.mem_map.1 this
    exact hx' e2 hm2 (hk2.trans he')

theorem ArcMap.run_entryStore (h : ArcMap w b f) {st : Nat} (hst : ArcEnt w b (arcV x y z) st) (v : Int) :
    ∃ w', (Instr.entryStore 151 (.map (some b)) (.int .i64 (st : Nat)) (.int .i64 v)).run Try.prog w = .ok () w' ∧
      ArcMap w' b (upd f x y z v) ∧ MapOnly b w w' := by
  obtain ⟨es, clock, hb, he, hn, hs, hs2, h0⟩ := h
  obtain ⟨es1, clock1, hb1, e0, hm0, hkey0, hborn0⟩ := hst
  have hlt := (Array.getElem?_eq_some_iff.1 hb).1
  rw [hb] at hb1
  injection hb1 with hb1
  injection hb1 with e1 e2
  subst e1 e2
  obtain ⟨j, hjl, hj⟩ := List.getElem_of_mem hm0
  have hj' : es.toList[j]? = some e0 := by rw [List.getElem?_eq_getElem hjl, hj]
  have hidx : es.findIdx? (fun e => ((e.born : Nat) : Int) == ((st : Nat) : Int)) = some j := by
    rw [Go.WideElems.findIdx_arr, ← hborn0]
    exact Go.WideElems.findIdx_born hs2 hj'
  refine ⟨setBlock w b (.map (es.modify j fun e => { e with val := .int .i64 v }) clock), ?_, ?_, MapOnly.of_set hb⟩
  · simp [Instr.entryStore, MapKept.run_getObj_map hb, asInt, asIntOf, hidx, MapKept.run_setObj_map _ hb, Result.andThen, setBlock]
  · exact arcMap_modify hb he hn hs hs2 h0 hj' hkey0 v

theorem ArcMap.run_mapUpdate (h : ArcMap w b f) (hk : ∃ l, keyOf Try.prog 112 (arcV x y z) = some l) (v : Int) :
    ∃ w', (Instr.mapUpdate 151 (.map (some b)) (arcV x y z) (.int .i64 v)).run Try.prog w = .ok () w' ∧ ArcMap w' b (upd f x y z v) ∧ MapOnly b w w' := by
  obtain ⟨es, clock, hb, he, hn, hs, hs2, h0⟩ := h
  have hk0 := hk
  obtain ⟨l, hl⟩ := hk
  have hlt := (Array.getElem?_eq_some_iff.1 hb).1
  have hu : Try.prog.underlying 151 = some (.map 112 3) := Try.underlying151
  rcases arc_law.find w hl es.toList (fun e hm => (he e hm).elim fun _ h => h.elim fun _ h => h.elim fun _ h => h.2.1) with ⟨h1, h2⟩ | ⟨j, e, h1, h2, h3⟩
  · refine ⟨setBlock w b (.map (es.push ⟨arcV x y z, .int .i64 v, clock⟩) (clock + 1)), ?_, ?_, MapOnly.of_set hb⟩
    · simp [Instr.mapUpdate, run_underlying hu, MapKept.run_getObj_map hb, arc_law.check w false hl, h1, MapKept.run_setObj_map _ hb, Result.andThen, setBlock]
    · refine ⟨es.push ⟨arcV x y z, .int .i64 v, clock⟩, clock + 1, by simp [setBlock, hlt], ?_, ?_, ?_, ?_, ?_⟩
      · intro e hm
        simp only [Array.toList_push, List.mem_append, List.mem_singleton] at hm
        rcases hm with hm | rfl
        · obtain ⟨x', y', z', hk', hk2, hv⟩ := he e hm
          refine ⟨x', y', z', hk', hk2, ?_⟩
          unfold upd
          rw [if_neg]
          · exact hv
          · rintro ⟨rfl, rfl, rfl⟩; exact h2 e hm hk'
        · exact ⟨x, y, z, rfl, hk0, by simp [upd]⟩
      · simp only [Array.toList_push, List.map_append, List.map_cons, List.map_nil]
        refine List.nodup_append.2 ⟨hn, by simp, fun a ha c hc e1 => ?_⟩
        simp only [List.mem_singleton] at hc
        obtain ⟨u, hu1, rfl⟩ := List.mem_map.1 ha
        exact h2 u hu1 (e1.trans hc)
      · intro e hm
        simp only [Array.toList_push, List.mem_append, List.mem_singleton] at hm
        rcases hm with hm | rfl
        · have := hs e hm; omega
        · simp
      · simp only [Array.toList_push, List.map_append, List.map_cons, List.map_nil]
        refine List.nodup_append.2 ⟨hs2, by simp, fun a ha c hc e1 => ?_⟩
        simp only [List.mem_singleton] at hc
        obtain ⟨u, hu1, rfl⟩ := List.mem_map.1 ha
        have := hs u hu1
        omega
      · intro x' y' z' hx'
        unfold upd
        rw [if_neg]
        · exact h0 x' y' z' fun e hm => hx' e (by simp only [Array.toList_push, List.mem_append]; exact .inl hm)
        · rintro ⟨rfl, rfl, rfl⟩
          exact hx' ⟨arcV x' y' z', .int .i64 v, clock⟩ (by simp) rfl
  · have hj : es[j]? = some e := by simpa using h2
    have hsame : es.modify j (fun e => { e with key := arcV x y z, val := .int .i64 v }) = es.modify j (fun e => { e with val := .int .i64 v }) := by
      apply Array.ext'
      rw [Array.toList_modify, Array.toList_modify, Go.ChangeMaps.modify_eq_set _ _ _ _ h2, Go.ChangeMaps.modify_eq_set _ _ _ _ h2, ← h3]
    refine ⟨setBlock w b (.map (es.modify j fun e => { e with val := .int .i64 v }) clock), ?_, arcMap_modify hb he hn hs hs2 h0 h2 h3 v, MapOnly.of_set hb⟩
    simp [Instr.mapUpdate, run_underlying hu, MapKept.run_getObj_map hb, arc_law.check w false hl, h1, hj, h3, arc_law.stays w hl, hsame, MapKept.run_setObj_map _ hb, Result.andThen, setBlock]
end
end Go.Proofs.Ytkloaeaepjoijaa

/-
  The map of spots: what a block of type map[spot]int reads as, looking up and storing.
-/
import Derived.Test.YtefhdcecbmgljaaMem
set_option linter.all false
namespace Go.Proofs.Ytefhdcecbmgljaa
open Go.RowKit Go.MapKept
open Go.ChangeMaps (setBlock)

def spotV (x y : Int) : Value := .agg #[.int .i64 x, .int .i64 y]
theorem spotV_inj {x y x' y' : Int} (h : spotV x y = spotV x' y') : x = x' ∧ y = y' := by
  unfold spotV at h
  simpa using h
theorem spot_law : WideMaps.KeyLaw Try.prog 155 :=
  deep_law_laid Try.laidOut (m := 2) (by omega) (by decide +kernel) (by kernel_rfl) (by kernel_rfl)
theorem Try.cells155 : Try.prog.cellsOf 155 = 2 := by kernel_rfl
theorem Try.cells3 : Try.prog.cellsOf 3 = 1 := by kernel_rfl
theorem spot_key (x y : Int) (hx : (Lit.int .i64 x).wf = true) (hy : (Lit.int .i64 y).wf = true) : ∃ l, keyOf Try.prog 155 (spotV x y) = some l := by
  have hk : Try.prog.keyType 155 = true := by kernel_rfl
  have hd : ∀ d : Nat, Try.prog.keyLits (d + 2) 155 [.int .i64 x, .int .i64 y] = some [.int .i64 x, .int .i64 y] := by
    intro d
    simp [Program.keyLits, Try.underlying155, Try.cells155, Try.cells3, Try.underlying3, hx, hy]
  obtain ⟨d, hsz⟩ : ∃ d, Try.prog.types.size + 1 = d + 2 := ⟨Try.prog.types.size - 1, by
    have : 2 ≤ Try.prog.types.size := by decide +kernel
    omega⟩
  unfold keyOf
  rw [hsz]
  simp only [Try.underlying155, hk, spotV, Value.formed, Value.cells, Try.cells155, hd]
  exact ⟨_, rfl⟩

/-- Block b is a map of spots that reads as f. -/
def SpotMap (w : World) (b : Nat) (f : Int → Int → Option Int) : Prop :=
  ∃ es clock, w.heap[b]? = some (.map es clock) ∧
    (∀ e ∈ es.toList, ∃ x y v, e.key = spotV x y ∧ (∃ l, keyOf Try.prog 155 e.key = some l) ∧ e.val = .int .i64 v ∧ f x y = some v) ∧
    (es.toList.map (·.key)).Nodup ∧ (∀ e ∈ es.toList, e.born < clock) ∧ (es.toList.map (·.born)).Nodup ∧
    (∀ x y, (∀ e ∈ es.toList, e.key ≠ spotV x y) → f x y = none)
/-- f with one value turned. -/
def updS (f : Int → Int → Option Int) (x y v : Int) : Int → Int → Option Int :=
  fun a b => if a = x ∧ b = y then some v else f a b

section
variable {w : World} {b : Nat} {f : Int → Int → Option Int} {x y : Int}
theorem SpotMap.lt (h : SpotMap w b f) : b < w.heap.size := by
  obtain ⟨es, clock, hb, _⟩ := h
  exact (Array.getElem?_eq_some_iff.1 hb).1
theorem SpotMap.new (w : World) : SpotMap (w.alloc (.map #[] 0)) w.heap.size (fun _ _ => none) :=
  ⟨#[], 0, heap_alloc_new w _, by simp, by simp, by simp, by simp, fun _ _ _ => rfl⟩
theorem SpotMap.of_block {w' : World} (h : SpotMap w b f) (hb : w'.heap[b]? = w.heap[b]?) : SpotMap w' b f := by
  obtain ⟨es, clock, h1, h2⟩ := h
  exact ⟨es, clock, hb.trans h1, h2⟩
theorem zero3 (w : World) : (zeroValue 3).run Try.prog w = .ok (.int .i64 0) w := by kernel_rfl
theorem SpotMap.run_lookup (h : SpotMap w b f) (hk : ∃ l, keyOf Try.prog 155 (spotV x y) = some l) :
    (Instr.lookup 127 (.map (some b)) (spotV x y) true).run Try.prog w = .ok (.tuple #[.int .i64 ((f x y).getD 0), .bool (f x y).isSome]) w := by
  obtain ⟨es, clock, hb, he, hn, hs, hs2, h0⟩ := h
  obtain ⟨l, hl⟩ := hk
  have hu : Try.prog.underlying 127 = some (.map 155 3) := Try.underlying127
  rcases spot_law.find w hl es.toList (fun e hm => by obtain ⟨_, _, _, _, h, _⟩ := he e hm; exact h) with ⟨h1, h2⟩ | ⟨j, e, h1, h2, h3⟩
  · simp [Instr.lookup, run_underlying hu, MapKept.run_getObj_map hb, spot_law.check w _ hl, h1, zero3, Result.andThen, h0 x y h2]
  · obtain ⟨x', y', v, hk', _, hv, hf⟩ := he e (List.mem_of_getElem? h2)
    obtain ⟨rfl, rfl⟩ := spotV_inj (hk'.symm.trans h3)
    simp [Instr.lookup, run_underlying hu, MapKept.run_getObj_map hb, spot_law.check w _ hl, h1, Result.andThen, hv, hf]

theorem cell_setBlock_map {w : World} {b : Nat} {es es' : Array MapEntry} {clock clock' : Nat} (hb : w.heap[b]? = some (.map es clock)) (a : Addr) :
    (setBlock w b (.map es' clock')).cell? a = w.cell? a := by
  unfold World.cell? setBlock
  by_cases e : a.block = b
  · subst e
    have hlt := (Array.getElem?_eq_some_iff.1 hb).1
    rw [hb]
    simp [hlt]
  · simp [Array.getElem?_setIfInBounds, show ¬ b = a.block from fun h => e h.symm]

theorem frozen_setBlock_map {w : World} {b : Nat} {es es' : Array MapEntry} {clock clock' : Nat} (hb : w.heap[b]? = some (.map es clock)) (a : Addr) :
    (setBlock w b (.map es' clock')).frozen? a = w.frozen? a := by
  unfold World.frozen? setBlock
  by_cases e : a.block = b
  · subst e
    have hlt := (Array.getElem?_eq_some_iff.1 hb).1
    rw [hb]
    simp [hlt]
  · simp [Array.getElem?_setIfInBounds, show ¬ b = a.block from fun h => e h.symm]

/-- Only block b has turned, and it was a map and is one. -/
structure MapOnly (b : Nat) (w w' : World) : Prop where
  os : w'.os = w.os
  tape : w'.tape = w.tape
  output : w'.output = w.output
  size : w'.heap.size = w.heap.size
  block : ∀ k, k ≠ b → w'.heap[k]? = w.heap[k]?
  cell : ∀ a, w'.cell? a = w.cell? a
  frozen : ∀ a, w'.frozen? a = w.frozen? a

theorem MapOnly.refl (b : Nat) (w : World) : MapOnly b w w := ⟨rfl, rfl, rfl, rfl, fun _ _ => rfl, fun _ => rfl, fun _ => rfl⟩
theorem MapOnly.trans {b : Nat} {w w' w'' : World} (h : MapOnly b w w') (k : MapOnly b w' w'') : MapOnly b w w'' :=
  ⟨k.os.trans h.os, k.tape.trans h.tape, k.output.trans h.output, k.size.trans h.size, fun i hi => (k.block i hi).trans (h.block i hi), fun a => (k.cell a).trans (h.cell a), fun a => (k.frozen a).trans (h.frozen a)⟩
theorem MapOnly.of_set {w : World} {b : Nat} {es es' : Array MapEntry} {clock clock' : Nat} (hb : w.heap[b]? = some (.map es clock)) : MapOnly b w (setBlock w b (.map es' clock')) :=
  ⟨rfl, rfl, rfl, by simp [setBlock], fun k hk => by simp [setBlock, Array.getElem?_setIfInBounds, show ¬ b = k from fun h => hk h.symm], cell_setBlock_map hb, frozen_setBlock_map hb⟩
theorem MapOnly.below {b B : Nat} {a w w' : World} (h : MapOnly b w w') (hb : Below B a w) (hB : B ≤ b) : Below B a w' :=
  hb.trans ⟨h.os, h.tape, h.output, Nat.le_of_eq h.size.symm, fun k hk => h.block k (by omega)⟩

theorem nodup_entry {l : List MapEntry} (hn : (l.map (·.key)).Nodup) {a c : MapEntry} (ha : a ∈ l) (hc : c ∈ l) (hk : a.key = c.key) : a = c := by
  induction l with
  | nil => cases ha
  | cons d r ih =>
    simp only [List.map_cons, List.nodup_cons] at hn
    rcases List.mem_cons.1 ha with rfl | ha' <;> rcases List.mem_cons.1 hc with rfl | hc'
    · rfl
    · exact absurd (List.mem_map.2 ⟨c, hc', hk.symm⟩) hn.1
    · exact absurd (List.mem_map.2 ⟨a, ha', hk⟩) hn.1
    · exact ih hn.2 ha' hc'

theorem spotMap_modify {es : Array MapEntry} {clock : Nat} (hb : w.heap[b]? = some (.map es clock))
    (he : ∀ e ∈ es.toList, ∃ x y v, e.key = spotV x y ∧ (∃ l, keyOf Try.prog 155 e.key = some l) ∧ e.val = .int .i64 v ∧ f x y = some v)
    (hn : (es.toList.map (·.key)).Nodup) (hs : ∀ e ∈ es.toList, e.born < clock) (hs2 : (es.toList.map (·.born)).Nodup)
    (h0 : ∀ x y, (∀ e ∈ es.toList, e.key ≠ spotV x y) → f x y = none) {j : Nat} {e0 : MapEntry} (hj' : es.toList[j]? = some e0) (hkey0 : e0.key = spotV x y) (v : Int) :
    SpotMap (setBlock w b (.map (es.modify j fun e => { e with val := .int .i64 v }) clock)) b (updS f x y v) := by
  have hlt := (Array.getElem?_eq_some_iff.1 hb).1
  have hm0 : e0 ∈ es.toList := List.mem_of_getElem? hj'
  obtain ⟨hjl, hj⟩ := List.getElem?_eq_some_iff.1 hj'
  have hl : (es.modify j fun e => { e with val := Value.int .i64 v }).toList = es.toList.set j { e0 with val := .int .i64 v } := by
    rw [Array.toList_modify, Go.ChangeMaps.modify_eq_set _ _ _ _ hj']
  have hmk : (es.toList.set j { e0 with val := .int .i64 v }).map (·.key) = es.toList.map (·.key) := by
    rw [List.map_set]
    exact Go.WideElems.set_self _ _ _ (by rw [List.getElem?_map, hj']; rfl)
  have hmb : (es.toList.set j { e0 with val := .int .i64 v }).map (·.born) = es.toList.map (·.born) := by
    rw [List.map_set]
    exact Go.WideElems.set_self _ _ _ (by rw [List.getElem?_map, hj']; rfl)
  refine ⟨_, clock, by simp [setBlock, hlt]; rfl, ?_, by rw [hl, hmk]; exact hn, ?_, by rw [hl, hmb]; exact hs2, ?_⟩
  · intro e hm
    rw [hl] at hm
    obtain ⟨i, hil, hi⟩ := List.getElem_of_mem hm
    by_cases hij : i = j
    · subst hij
      rw [List.getElem_set_self] at hi
      rw [← hi]
      obtain ⟨x', y', v', hk', hk2, hv, hf⟩ := he e0 hm0
      obtain ⟨rfl, rfl⟩ := spotV_inj (hk'.symm.trans hkey0)
      exact ⟨x', y', v, hk', hk2, rfl, by simp [updS]⟩
    · rw [List.getElem_set_ne (fun h => hij h.symm)] at hi
      have hil' : i < es.toList.length := by simpa using hil
      have hm1 : e ∈ es.toList := by rw [← hi]; exact List.getElem_mem _
      obtain ⟨x', y', v', hk', hk2, hv, hf⟩ := he e hm1
      refine ⟨x', y', v', hk', hk2, hv, ?_⟩
      unfold updS
      rw [if_neg]
      · exact hf
      · rintro ⟨rfl, rfl⟩
        have hkn : (es.toList.map (·.key))[i]'(by simpa using hil') = (es.toList.map (·.key))[j]'(by simpa using hjl) := by
          simp only [List.getElem_map]
          rw [hi, hj, hk', hkey0]
        exact hij ((List.getElem_inj hn).1 hkn)
  · intro e hm
    rw [hl] at hm
    rcases List.mem_or_eq_of_mem_set hm with hm1 | rfl
    · exact hs e hm1
    · exact hs e0 hm0
  · intro x' y' hx'
    rw [hl] at hx'
    have hmem : ({ e0 with val := .int .i64 v } : MapEntry) ∈ es.toList.set j { e0 with val := .int .i64 v } := List.mem_set hjl _
    have hne := hx' _ hmem
    have hne' : ¬ (x' = x ∧ y' = y) := by
      rintro ⟨rfl, rfl⟩
      exact hne hkey0
    unfold updS
    rw [if_neg hne']
    refine h0 x' y' fun e hm he' => ?_
    have : e.key ∈ (es.toList.set j { e0 with val := .int .i64 v }).map (·.key) := by rw [hmk]; exact List.mem_map.2 ⟨e, hm, rfl⟩
    obtain ⟨e2, hm2, hk2⟩ := List.mem_map.1 this
    exact hx' e2 hm2 (hk2.trans he')

theorem SpotMap.run_mapUpdate (h : SpotMap w b f) (hk : ∃ l, keyOf Try.prog 155 (spotV x y) = some l) (v : Int) :
    ∃ w', (Instr.mapUpdate 127 (.map (some b)) (spotV x y) (.int .i64 v)).run Try.prog w = .ok () w' ∧ SpotMap w' b (updS f x y v) ∧ MapOnly b w w' := by
  obtain ⟨es, clock, hb, he, hn, hs, hs2, h0⟩ := h
  have hk0 := hk
  obtain ⟨l, hl⟩ := hk
  have hlt := (Array.getElem?_eq_some_iff.1 hb).1
  have hu : Try.prog.underlying 127 = some (.map 155 3) := Try.underlying127
  rcases spot_law.find w hl es.toList (fun e hm => by obtain ⟨_, _, _, _, h, _⟩ := he e hm; exact h) with ⟨h1, h2⟩ | ⟨j, e, h1, h2, h3⟩
  · refine ⟨setBlock w b (.map (es.push ⟨spotV x y, .int .i64 v, clock⟩) (clock + 1)), ?_, ?_, MapOnly.of_set hb⟩
    · simp [Instr.mapUpdate, run_underlying hu, MapKept.run_getObj_map hb, spot_law.check w false hl, h1, MapKept.run_setObj_map _ hb, Result.andThen, setBlock]
    · refine ⟨es.push ⟨spotV x y, .int .i64 v, clock⟩, clock + 1, by simp [setBlock, hlt], ?_, ?_, ?_, ?_, ?_⟩
      · intro e hm
        simp only [Array.toList_push, List.mem_append, List.mem_singleton] at hm
        rcases hm with hm | rfl
        · obtain ⟨x', y', v', hk', hk2, hv, hf⟩ := he e hm
          refine ⟨x', y', v', hk', hk2, hv, ?_⟩
          unfold updS
          rw [if_neg]
          · exact hf
          · rintro ⟨rfl, rfl⟩; exact h2 e hm hk'
        · exact ⟨x, y, v, rfl, hk0, rfl, by simp [updS]⟩
      · simp only [Array.toList_push, List.map_append, List.map_cons, List.map_nil]
        refine List.nodup_append.2 ⟨hn, by simp, fun a ha c hc e1 => ?_⟩
        simp only [List.mem_singleton] at hc
        obtain ⟨u, hu1, rfl⟩ := List.mem_map.1 ha
        exact h2 u hu1 (e1.trans hc)
      · intro e hm
        simp only [Array.toList_push, List.mem_append, List.mem_singleton] at hm
        rcases hm with hm | rfl
        · have := hs e hm; omega
        · simp
      · simp only [Array.toList_push, List.map_append, List.map_cons, List.map_nil]
        refine List.nodup_append.2 ⟨hs2, by simp, fun a ha c hc e1 => ?_⟩
        simp only [List.mem_singleton] at hc
        obtain ⟨u, hu1, rfl⟩ := List.mem_map.1 ha
        have := hs u hu1
        omega
      · intro x' y' hx'
        unfold updS
        rw [if_neg]
        · exact h0 x' y' fun e hm => hx' e (by simp only [Array.toList_push, List.mem_append]; exact .inl hm)
        · rintro ⟨rfl, rfl⟩
          exact hx' ⟨spotV x' y', .int .i64 v, clock⟩ (by simp) rfl
  · have hj : es[j]? = some e := by simpa using h2
    have hsame : es.modify j (fun e => { e with key := spotV x y, val := .int .i64 v }) = es.modify j (fun e => { e with val := .int .i64 v }) := by
      apply Array.ext'
      rw [Array.toList_modify, Array.toList_modify, Go.ChangeMaps.modify_eq_set _ _ _ _ h2, Go.ChangeMaps.modify_eq_set _ _ _ _ h2, ← h3]
    refine ⟨setBlock w b (.map (es.modify j fun e => { e with val := .int .i64 v }) clock), ?_, spotMap_modify hb he hn hs hs2 h0 h2 h3 v, MapOnly.of_set hb⟩
    simp [Instr.mapUpdate, run_underlying hu, MapKept.run_getObj_map hb, spot_law.check w false hl, h1, hj, h3, spot_law.stays w hl, hsame, MapKept.run_setObj_map _ hb, Result.andThen, setBlock]
end
end Go.Proofs.Ytefhdcecbmgljaa

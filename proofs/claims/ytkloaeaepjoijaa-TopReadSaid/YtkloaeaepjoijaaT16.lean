/-
  A code as an argument.
-/
import Derived.Test.YtkloaeaepjoijaaT15
import Derived.SliceStrings
set_option linter.all false
namespace Go.Proofs.Ytkloaeaepjoijaa
open Go.ChangeShapes Go.WideShapes Go.ChangeAt Go.RowKit Go.Joins Go.Deep
theorem Try.cells9 : Try.prog.cellsOf 9 = 1 := by kernel_rfl
theorem Try.cells75 : Try.prog.cellsOf 75 = 1 := by kernel_rfl
theorem Try.cells77 : Try.prog.cellsOf 77 = 1 := by kernel_rfl
section
variable {H : Type} {enc : TypeId × Value → H} {W : World} {spare : Nat → Bool} {held : Bool}
theorem strs_open {fuel : Nat} {vs : List Value} {x : DataW H × List MemPlace} (h : DataW.trod enc Try.prog W 0 spare held fuel 75 vs = some x) :
    ∃ A cap cs, vs = [.slice A (List.length cs) cap] ∧ StrsAt W A cs ∧ cs.length ≤ 9223372036854775807 ∧ ∀ j (h : j < cs.length), cs[j].size ≤ 9223372036854775807 := by
  rcases open_strings Try.underlying75 Try.underlying9 Try.cells9 h with ⟨rfl, _⟩ | ⟨a, len, cap, ss, rfl, _, hl, hm, hz, _, hcell, hsz⟩
  · exact ⟨none, 0, [], rfl, .inl rfl, by simp, fun j h => by simp at h⟩
  · have hlz : len ≤ ss.length := by rw [hz]; split <;> omega
    have hlen : (ss.take len).length = len := by simp; omega
    unfold maxLen at hm
    refine ⟨some a, cap, ss.take len, by rw [hlen], ?_, by omega, fun j hj => ?_⟩
    · by_cases h0 : len = 0
      · exact .inl (by rw [h0]; rfl)
      · obtain ⟨b, o, spot⟩ := a
        have hc := hcell 0 (by omega)
        have hsp : spot = none := by simpa [Addr.add] using World.cell?_spot hc
        subst hsp
        refine .inr ⟨b, o, rfl, fun i hi => ?_⟩
        have hi2 : i < ss.length := by omega
        have := hcell i hi2
        rw [add_at] at this
        rw [this, List.getElem_take]
        simp [hi2]
    · have := hsz _ (List.mem_of_mem_take (List.getElem_mem hj))
      unfold maxLen at this
      exact this
set_option maxRecDepth 100000 in
theorem code_open {v : Value} {d : DataW H} {p : List MemPlace} (hv : Value.okWide Try.prog W .any 0 77 v) (h : DataW.Trod enc Try.prog W 0 spare held 77 v d p) :
    ∃ A cap cs, v = .agg #[.slice A (List.length cs) cap] ∧ StrsAt W A cs ∧ cs.length ≤ 9223372036854775807 ∧ ∀ j (h : j < cs.length), cs[j].size ≤ 9223372036854775807 := by
  obtain ⟨vs, rfl, hsz⟩ := okWide_struct Try.underlying77 hv
  obtain ⟨c0, rfl⟩ : ∃ c0, vs = #[c0] := by
    rw [Try.cells77] at hsz
    obtain ⟨l⟩ := vs
    match l, hsz with
    | [c0], _ => exact ⟨c0, rfl⟩
  obtain ⟨fuel, hf⟩ := h
  obtain ⟨y0, n, _, _, h0⟩ := trod_struct1 Try.underlying77 hf
  have h1 : DataW.trod enc Try.prog W 0 spare held n 75 [c0] = some y0 := by
    have hone : (Value.agg #[c0]).cells = #[c0] := rfl
    rw [hone, Try.cells75] at h0
    exact h0
  obtain ⟨A, cap, cs, hc, h2⟩ := strs_open h1
  obtain rfl : c0 = _ := by simpa using hc
  exact ⟨A, cap, cs, rfl, h2⟩
end
end Go.Proofs.Ytkloaeaepjoijaa

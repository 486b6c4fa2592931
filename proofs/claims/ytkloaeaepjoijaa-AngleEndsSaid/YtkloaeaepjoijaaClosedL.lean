/-
  Words as an argument; what a truth says of the smallest error, the bounds, what is left out.
-/
import Derived.Test.YtkloaeaepjoijaaClosed
set_option linter.all false
namespace Go.Proofs.Ytkloaeaepjoijaa
open Go.ChangeShapes Go.WideShapes Go.ChangeAt Go.RowKit Go.Joins Go.Deep

theorem Try.cells93 : Try.prog.cellsOf 93 = 1 := by kernel_rfl
section
variable {H : Type} {enc : TypeId × Value → H} {W : World} {spare : Nat → Bool} {held : Bool}
set_option maxRecDepth 100000 in
theorem words_open {v : Value} {d : DataW H} {p : List MemPlace} (hv : Value.okWide Try.prog W .any 0 66 v) (h : DataW.Trod enc Try.prog W 0 spare held 66 v d p) :
    ∃ A cap ws, v = .slice A (List.length ws) cap ∧ WordsAt W (.slice A (List.length ws) cap) ws ∧ ws.length ≤ 9223372036854775807 := by
  obtain ⟨a, len, cap, rfl⟩ := okWide_slice Try.underlying66 hv
  obtain ⟨fuel, hf⟩ := h
  rcases open_ints Try.underlying66 Try.underlying93 Try.cells93 hf with ⟨hc, _⟩ | ⟨a', len', cap', zs, hc, _, hl, hm, hz, _, hcell, hwz⟩
  · simp [Value.cells] at hc
    obtain ⟨rfl, rfl, rfl⟩ := hc
    exact ⟨none, 0, [], rfl, ⟨none, 0, rfl, (fun x h => by cases h), .inl rfl⟩, by simp⟩
  · simp [Value.cells] at hc
    obtain ⟨rfl, rfl, rfl⟩ := hc
    have hlz : len ≤ zs.length := by rw [hz]; split <;> omega
    have hlen : (zs.take len).length = len := by simp; omega
    refine ⟨some a', cap, zs.take len, by rw [hlen], ⟨_, _, rfl, fun x hx => u16_range (hwz x (List.mem_of_mem_take hx)), ?_⟩, by rw [hlen]; unfold maxLen at hm; omega⟩
    by_cases h0 : len = 0
    · exact .inl (by rw [h0]; rfl)
    · obtain ⟨b, o, spot⟩ := a'
      have hc := hcell 0 (by omega)
      have hsp : spot = none := by simpa [Addr.add] using World.cell?_spot hc
      subst hsp
      refine .inr ⟨b, o, rfl, fun i hi => ?_⟩
      have hi2 : i < zs.length := by omega
      have := hcell i hi2
      rw [add_at] at this
      rw [this, List.getElem_take]
      simp [hi2]
end

section
variable {l : List Ang} {T C e : Int} {xs : List Int}
theorem truth_sure (h : truthB l T C e xs = true) : sureL l T C e = 0 := by
  unfold sureL
  rw [if_neg (by rw [(truthB_iff.1 h).1]; simp), if_pos (truthB_can h)]
theorem truth_least (h : truthB l T C e xs = true) : leastE l T C = 0 ∧ 0 ≤ leastN l T C ∧ leastN l T C ≤ e := by
  obtain ⟨hok, he0, he1⟩ := askedL_ok (truthB_iff.1 h).1
  have hc := truthB_can h
  obtain ⟨n, rfl⟩ := Int.eq_ofNat_of_zero_le he0
  unfold leastE leastN
  rw [if_neg (by rw [faultL_zero.2 hok]; simp), if_neg (by rw [faultL_zero.2 hok]; simp)]
  cases hl : leastO l T C with
  | none => rw [leastO_none hl n (by omega)] at hc; cases hc
  | some k =>
    obtain ⟨_, _, hno⟩ := leastO_some hl
    refine ⟨rfl, by simp, ?_⟩
    rcases Nat.lt_or_ge n k with hlt | hge
    · rw [hno n hlt] at hc; cases hc
    · simp only []; omega
theorem truth_leave (h : truthB l T C e xs = true) : leaveO l T C e = some [] := by
  have hc := truthB_can h
  rcases leaveO_spec l T C e with ⟨_, h2⟩ | ⟨L, h1, hu, hp, hmin⟩
  · rw [h2 [] trivial] at hc; cases hc
  · cases L with
    | nil => exact h1
    | cons y ys =>
      have := hmin [] trivial (by unfold lessB; rw [if_neg (by simp)]; simp)
      rw [hc] at this; cases this
theorem truth_between (h : truthB l T C e xs = true) {bl bh : Int → Int} (hb : BoundsE l T C e l.length bl bh) {i : Nat} (hi : i < l.length) : bl i ≤ fnOf xs i ∧ fnOf xs i ≤ bh i := by
  obtain ⟨ha, hl, ht⟩ := truthB_iff.1 h
  have hp := point_of_truth (askedL_ok ha).1 ht hi
  constructor
  · rcases Int.lt_or_le (fnOf xs i) (bl i) with hlt | hge
    · have := (hb.lo i hi).no _ hp.1 hlt
      rw [hp.2.2] at this; cases this
    · exact hge
  · rcases Int.lt_or_le (bh i) (fnOf xs i) with hlt | hge
    · have := (hb.hi i hi).no _ hlt hp.2.1
      rw [hp.2.2] at this; cases this
    · exact hge
end
end Go.Proofs.Ytkloaeaepjoijaa

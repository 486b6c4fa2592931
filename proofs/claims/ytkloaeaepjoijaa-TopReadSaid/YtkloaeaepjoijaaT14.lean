/-
  Words as an argument; what a truth says of the smallest error, the bounds, what is left out.
  AngleEnds, plainly: a room that ends at an end of the bounds holds a truth; one that ends before holds none.
  readAs: a net in which another number was read of an angle.
-/
import Derived.Test.YtkloaeaepjoijaaT11
import Derived.Test.YtkloaeaepjoijaaT13
set_option linter.all false
namespace Go.Proofs.Ytkloaeaepjoijaa
section
open Go.ChangeShapes Go.WideShapes Go.ChangeAt Go.RowKit Go.Joins Go.Deep
theorem Try.cells93 : Try.prog.cellsOf 93 = 1 := by kernel_rfl
section
variable {H : Type} {enc : TypeId × Value → H} {W : World} {spare : Nat → Bool} {held : Bool}
set_option maxRecDepth 100000 in
theorem words_open {v : Value} {d : DataW H} {p : List MemPlace} (hv : Value.okWide Try.prog W .any 0 66 v) (h : DataW.Trod enc Try.prog W 0 spare held 66 v d p) :
    ∃ A cap ws, v = .slice A (List.length ws) cap ∧ WordsAt W (.slice A (List.length ws) cap) ws ∧ ws.length ≤ 9223372036854775807 := by
  obtain ⟨a, len, cap, rfl⟩ := okWide_slice Try.underlying66 hv
  obtain ⟨fuel, hf⟩ := h
  rcases open_ints Try.underlying66 Try.underlying93 Try.cells93 hf with ⟨hc, _⟩ | ⟨a', len', cap', zs, hc, _, hl, hm, hz, _, hcell, hwz⟩
  · simp [Value.cells] at hc
    obtain ⟨rfl, rfl, rfl⟩ := hc
    exact ⟨none, 0, [], rfl, ⟨none, 0, rfl, (fun x h => by cases h), .inl rfl⟩, by simp⟩
  · simp [Value.cells] at hc
    obtain ⟨rfl, rfl, rfl⟩ := hc
    have hlz : len ≤ zs.length := by rw [hz]; split <;> omega
    have hlen : (zs.take len).length = len := by simp; omega
    refine ⟨some a', cap, zs.take len, by rw [hlen], ⟨_, _, rfl, fun x hx => u16_range (hwz x (List.mem_of_mem_take hx)), ?_⟩, by rw [hlen]; unfold maxLen at hm; omega⟩
    by_cases h0 : len = 0
    · exact .inl (by rw [h0]; rfl)
    · obtain ⟨b, o, spot⟩ := a'
      have hc := hcell 0 (by omega)
      have hsp : spot = none := by simpa [Addr.add] using World.cell?_spot hc
      subst hsp
      refine .inr ⟨b, o, rfl, fun i hi => ?_⟩
      have hi2 : i < zs.length := by omega
      have := hcell i hi2
      rw [add_at] at this
      rw [this, List.getElem_take]
      simp [hi2]
end
section
variable {l : List Ang} {T C e : Int} {xs : List Int}
theorem truth_sure (h : truthB l T C e xs = true) : sureL l T C e = 0 := by
  unfold sureL
  rw [if_neg (by rw [(truthB_iff.1 h).1]; simp), if_pos (truthB_can h)]
end
end
end Go.Proofs.Ytkloaeaepjoijaa
namespace Go.Proofs.Ytkloaeaepjoijaa
section
section
variable {l : List Ang} {T C : Int} {lo hi lo' hi' : Int → Int}
end
section
variable {l : List Ang} {T C e : Int} {i : Nat} {r : Int}
theorem rd_len (h : i < l.length) : (l.set i (putF l[i] 2 r)).length = l.length := List.length_set
theorem rd_same (h : i < l.length) : SameNet l (l.set i (putF l[i] 2 r)) := by
  refine ⟨List.length_set, fun j h1 h2 => ?_, fun j h1 h2 => ?_⟩
  · rw [List.getElem_set]
    split
    · rename_i e; subst e; simp [putF]
    · rfl
  · rw [List.getElem_set]
    split
    · rename_i e; subst e; simp [putF]
    · rfl
theorem rd_ok (hok : NetOk l T C) (h : i < l.length) (h0 : 0 ≤ r) (h1 : r ≤ 40) : NetOk (l.set i (putF l[i] 2 r)) T C := by
  refine ⟨by rw [List.length_set]; exact hok.pos, by rw [List.length_set]; exact hok.len, hok.t0, hok.t1, hok.c0, hok.c1, fun a ha => ?_⟩
  rcases List.mem_or_eq_of_mem_set ha with ha | rfl
  · exact hok.ang a ha
  · have := hok.ang l[i] (List.getElem_mem h)
    simp only [putF]
    simp
    omega
theorem rd_sure (hok : NetOk l T C) (he : 0 ≤ e ∧ e ≤ 40) (h : i < l.length) (h0 : 0 ≤ r) (h1 : r ≤ 40) : sureL (l.set i (putF l[i] 2 r)) T C e = if canB l T C (roomLo (l.set i (putF l[i] 2 r)) e []) (roomHi (l.set i (putF l[i] 2 r)) e []) then 0 else 9 := by
  have ha : askedL (l.set i (putF l[i] 2 r)) T C e = 0 := by
    unfold askedL
    rw [if_neg (by rw [faultL_zero.2 (rd_ok hok h h0 h1)]; simp), if_pos he]
  rw [sureL_ans ha]
  unfold canE
  rw [(rd_same h).canB]
variable {bl bh : Int → Int}
end
end
end Go.Proofs.Ytkloaeaepjoijaa
namespace Go.Proofs.Ytkloaeaepjoijaa
section
open Go.RowKit Go.WalkArith
theorem blk3 {w : World} {B t : Nat} {fr : Nat × Nat} {x0 x1 x2 : Value} (h : w.heap[B]? = some (.cells #[x0, x1, x2] t fr)) : w.cell? ⟨B, 0, none⟩ = some x0 ∧ w.cell? ⟨B, 1, none⟩ = some x1 ∧ w.cell? ⟨B, 2, none⟩ = some x2 := by simp [World.cell?, h]
end
end Go.Proofs.Ytkloaeaepjoijaa

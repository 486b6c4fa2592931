/-
  What an argument is in memory: nets, lists, cuts; the frame of a law's proof.
-/
import Derived.Test.YtkloaeaepjoijaaRows
import Derived.Test.YtkloaeaepjoijaaRef7
import Derived.Test.YtkloaeaepjoijaaRef5
import Derived.ProofKit
import Derived.OpenShut
import Derived.ShutString
import Derived.ChangeOld
import Derived.Below
import Derived.Carry
import Derived.Deep.Fields
import Derived.Lib.SmallJoins
set_option linter.all false
namespace Go.Proofs.Ytkloaeaepjoijaa
open Go.ChangeShapes Go.WideShapes Go.ChangeAt Go.RowKit Go.Joins Go.Deep

theorem Try.ownK : ownKnob Try.prog.godebug = none := by kernel_rfl
theorem Try.laidOutK : laidOutB Try.prog = true := by kernel_rfl
theorem Try.cells71 : Try.prog.cellsOf 71 = 4 := by kernel_rfl
theorem Try.cells24 : Try.prog.cellsOf 24 = 3 := by kernel_rfl
theorem Try.cells27 : Try.prog.cellsOf 27 = 2 := by kernel_rfl

section
variable {H : Type} {enc : TypeId × Value → H} {W : World} {spare : Nat → Bool} {held : Bool}

theorem angs_open {fuel : Nat} {cs : List Value} {x : DataW H × List MemPlace} (h : DataW.trod enc Try.prog W 0 spare held fuel 22 cs = some x) :
    ∃ A n cap l, cs = [.slice A n cap] ∧ l.length = n ∧ AngsAt W A l ∧ NilOk A cap := by
  rcases open_slice Try.underlying22 h with ⟨rfl, _⟩ | ⟨a, len, cap, m, n, D, Pl, rfl, _, hl, _, hm, hx, hi⟩
  · exact ⟨none, 0, 0, [], rfl, rfl, .inl rfl, fun _ => rfl⟩
  · have hlm : len ≤ m := by subst hm; split <;> omega
    have hcell : ∀ i, i < len → ∃ r : Ang, W.cell? (a.add (i * 4)) = some (.int .i64 r.t) ∧ W.cell? (a.add (i * 4 + 1)) = some (.int .i64 r.c) ∧ W.cell? (a.add (i * 4 + 2)) = some (.int .i64 r.r) ∧ W.cell? (a.add (i * 4 + 3)) = some (.int .i64 r.g) := by
      intro i hil
      obtain ⟨cs', hc, ht⟩ := hi i (by omega)
      rw [Try.cells71] at hc
      obtain ⟨_, hcl, hat⟩ := World.cells?_some hc
      obtain ⟨ys, n', _, _, _, hyl, hf⟩ := DataW.trod_struct Try.underlying71 ht
      have one : ∀ (j : Nat) (f : Field), (#[{ name := "Triangle", type := 3, offset := 0, embedded := false, tag := "", pkgPath := "", byteOffset := 0 }, { name := "Circle", type := 3, offset := 1, embedded := false, tag := "", pkgPath := "", byteOffset := 8 }, { name := "Read", type := 3, offset := 2, embedded := false, tag := "", pkgPath := "", byteOffset := 16 }, { name := "Weight", type := 3, offset := 3, embedded := false, tag := "", pkgPath := "", byteOffset := 24 }] : Array Field)[j]? = some f → f.offset = j → f.type = 3 → j < 4 → ∃ z, W.cell? (a.add (i * 4 + j)) = some (.int .i64 z) := by
        intro j f hj ho hty hj4
        have h1 := hf j f hj
        rw [ho, hty, Try.cells3] at h1
        have hone : (cs'.drop j).take 1 = [cs'[j]'(by omega)] := by rw [List.drop_eq_getElem_cons (by omega)]; rfl
        rw [hone] at h1
        have hys : ys[j]? = some (ys[j]'(by simp at hyl; omega)) := List.getElem?_eq_getElem _
        obtain ⟨z, hz, _⟩ := DataW.trod_int Try.underlying3 (h1.trans hys)
        refine ⟨z, ?_⟩
        have := hat j hj4
        rw [add_add] at this
        rw [this, List.getElem?_eq_getElem (by omega)]
        simpa using hz
      obtain ⟨z0, h0⟩ := one 0 _ rfl rfl rfl (by omega)
      obtain ⟨z1, h1⟩ := one 1 _ rfl rfl rfl (by omega)
      obtain ⟨z2, h2⟩ := one 2 _ rfl rfl rfl (by omega)
      obtain ⟨z3, h3⟩ := one 3 _ rfl rfl rfl (by omega)
      exact ⟨⟨z0, z1, z2, z3⟩, h0, h1, h2, h3⟩
    obtain ⟨l, hll, hlr⟩ : ∃ l : List Ang, l.length = len ∧ ∀ i (hi : i < l.length), W.cell? (a.add (i * 4)) = some (.int .i64 l[i].t) ∧ W.cell? (a.add (i * 4 + 1)) = some (.int .i64 l[i].c) ∧ W.cell? (a.add (i * 4 + 2)) = some (.int .i64 l[i].r) ∧ W.cell? (a.add (i * 4 + 3)) = some (.int .i64 l[i].g) := by
      clear hi hm hlm hl h hx
      induction len with
      | zero => exact ⟨[], rfl, fun i hi => by simp at hi⟩
      | succ k ih =>
        obtain ⟨l, hl, hr⟩ := ih (fun i hi => hcell i (by omega))
        obtain ⟨r, hr'⟩ := hcell k (by omega)
        refine ⟨l ++ [r], by simp [hl], fun i hi => ?_⟩
        by_cases e : i < l.length
        · rw [List.getElem_append_left e]; exact hr i e
        · have : i = k := by simp at hi; omega
          subst this
          rw [List.getElem_append_right (by omega)]
          simpa [hl] using hr'
    refine ⟨some a, len, cap, l, rfl, hll, ?_, fun h => by cases h⟩
    by_cases h0 : l = []
    · exact .inl h0
    · obtain ⟨b, o, spot⟩ := a
      have hpos : 0 < l.length := List.length_pos_iff.2 h0
      have hc := (hlr 0 hpos).1
      have hsp : spot = none := by simpa [Addr.add] using World.cell?_spot hc
      subst hsp
      refine .inr ⟨b, o, rfl, fun i hi => ?_⟩
      have := hlr i hi
      simp only [add_at] at this
      exact this

theorem ints_open {fuel : Nat} {cs : List Value} {x : DataW H × List MemPlace} (h : DataW.trod enc Try.prog W 0 spare held fuel 25 cs = some x) :
    ∃ A cap xs, cs = [.slice A (List.length xs) cap] ∧ IntsAt W (.slice A (List.length xs) cap) xs ∧ NilOk A cap := by
  rcases open_ints Try.underlying25 Try.underlying3 Try.cells3 h with ⟨rfl, _⟩ | ⟨a, len, cap, zs, rfl, _, hl, hm, hz, _, hcell, hwz⟩
  · exact ⟨none, 0, [], rfl, IntsAt.nil _, fun _ => rfl⟩
  · have hlz : len ≤ zs.length := by rw [hz]; split <;> omega
    have hlen : (zs.take len).length = len := by simp; omega
    refine ⟨some a, cap, zs.take len, by rw [hlen], ⟨_, _, rfl, ?_⟩, fun h => by cases h⟩
    by_cases h0 : len = 0
    · exact .inl (by rw [h0]; rfl)
    · obtain ⟨b, o, spot⟩ := a
      have hc := hcell 0 (by omega)
      have hsp : spot = none := by simpa [Addr.add] using World.cell?_spot hc
      subst hsp
      refine .inr ⟨b, o, rfl, fun i hi => ?_⟩
      have hi2 : i < zs.length := by omega
      have := hcell i hi2
      rw [add_at] at this
      rw [this, List.getElem_take]
      simp [hi2]

set_option maxRecDepth 100000 in
theorem net_open {v : Value} {d : DataW H} {p : List MemPlace} (hv : Value.okWide Try.prog W .any 0 24 v) (h : DataW.Trod enc Try.prog W 0 spare held 24 v d p) :
    ∃ A n cap T C l, v = .agg #[.slice A n cap, .int .i64 T, .int .i64 C] ∧ List.length l = n ∧ AngsAt W A l ∧ NilOk A cap := by
  obtain ⟨v0, v1, v2, y0, y1, y2, n, rfl, _, _, h0, h1, h2⟩ := open_agg3 Try.underlying24 (by kernel_rfl) Try.cells24 hv h
  obtain ⟨A, m, cap, l, hc, hl, hA, hN⟩ := angs_open h0
  obtain ⟨T, hT, _⟩ := DataW.trod_int Try.underlying3 h1
  obtain ⟨C, hC, _⟩ := DataW.trod_int Try.underlying3 h2
  simp only [List.cons.injEq, and_true] at hc hT hC
  subst hc hT hC
  exact ⟨A, m, cap, T, C, l, rfl, hl, hA, hN⟩

set_option maxRecDepth 100000 in
theorem cut_open {v : Value} {d : DataW H} {p : List MemPlace} (hv : Value.okWide Try.prog W .any 0 27 v) (h : DataW.Trod enc Try.prog W 0 spare held 27 v d p) :
    ∃ A B cap cap2 ts cs, v = .agg #[.slice A (List.length ts) cap, .slice B (List.length cs) cap2] ∧ IntsAt W (.slice A (List.length ts) cap) ts ∧ IntsAt W (.slice B (List.length cs) cap2) cs ∧ NilOk A cap ∧ NilOk B cap2 := by
  obtain ⟨v0, v1, y0, y1, n, rfl, _, _, h0, h1⟩ := open_agg2 Try.underlying27 (by kernel_rfl) Try.cells27 hv h
  obtain ⟨A, cap, ts, hc, hI, hN⟩ := ints_open h0
  obtain ⟨B, cap2, cs, hc2, hI2, hN2⟩ := ints_open h1
  simp only [List.cons.injEq, and_true] at hc hc2
  subst hc hc2
  exact ⟨A, B, cap, cap2, ts, cs, rfl, hI, hI2, hN, hN2⟩

set_option maxRecDepth 100000 in
theorem list_open {v : Value} {d : DataW H} {p : List MemPlace} (hv : Value.okWide Try.prog W .any 0 25 v) (h : DataW.Trod enc Try.prog W 0 spare held 25 v d p) :
    ∃ A cap xs, v = .slice A (List.length xs) cap ∧ IntsAt W (.slice A (List.length xs) cap) xs ∧ NilOk A cap := by
  obtain ⟨a, len, cap, rfl⟩ := okWide_slice Try.underlying25 hv
  obtain ⟨fuel, hf⟩ := h
  obtain ⟨A, cap', xs, hc, hI, hN⟩ := ints_open hf
  simp [Value.cells] at hc
  obtain ⟨rfl, rfl, rfl⟩ := hc
  exact ⟨a, cap, xs, rfl, hI, hN⟩
end
end Go.Proofs.Ytkloaeaepjoijaa

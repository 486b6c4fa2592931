/-
  What an argument is in memory: stores, plans, truths, dips, lists; the frame of a law's proof.
-/
import Derived.Test.YtefhdcecbmgljaaRows
import Derived.Test.YtefhdcecbmgljaaRefE
import Derived.ProofKit
import Derived.OpenShut
import Derived.ShutString
import Derived.ChangeOld
import Derived.Below
import Derived.Carry
import Derived.Deep.Fields
import Derived.Lib.SmallJoins
set_option linter.all false
namespace Go.Proofs.Ytefhdcecbmgljaa
open Go.ChangeShapes Go.WideShapes Go.ChangeAt Go.RowKit Go.Joins Go.Deep

theorem Try.ownK : ownKnob Try.prog.godebug = none := by kernel_rfl
theorem Try.laidOutK : laidOutB Try.prog = true := by kernel_rfl
theorem Try.cells3 : Try.prog.cellsOf 3 = 1 := by kernel_rfl
theorem Try.cells23 : Try.prog.cellsOf 23 = 2 := by kernel_rfl
theorem Try.cells24 : Try.prog.cellsOf 24 = 1 := by kernel_rfl
theorem Try.cells80 : Try.prog.cellsOf 80 = 5 := by kernel_rfl
theorem Try.cells85 : Try.prog.cellsOf 85 = 3 := by kernel_rfl
theorem Try.cells26 : Try.prog.cellsOf 26 = 5 := by kernel_rfl
theorem Try.cells29 : Try.prog.cellsOf 29 = 2 := by kernel_rfl
theorem Try.cells31 : Try.prog.cellsOf 31 = 2 := by kernel_rfl

theorem u8_range {a : Int} (h : (Go.Lit.int .u8 a).wf = true) : 0 ≤ a ∧ a ≤ 255 := by
  simp only [Go.Lit.wf, Bool.and_eq_true, decide_eq_true_eq] at h
  have e0 : Go.IntKind.u8.min = 0 := by decide
  have e1 : Go.IntKind.u8.max = 255 := by decide
  omega
theorem u16_range {a : Int} (h : (Go.Lit.int .u16 a).wf = true) : 0 ≤ a ∧ a ≤ 65535 := by
  simp only [Go.Lit.wf, Bool.and_eq_true, decide_eq_true_eq] at h
  have e0 : Go.IntKind.u16.min = 0 := by decide
  have e1 : Go.IntKind.u16.max = 65535 := by decide
  omega
theorem list_choose {α : Type} {P : Nat → α → Prop} {n : Nat} (h : ∀ i, i < n → ∃ r, P i r) : ∃ l : List α, l.length = n ∧ ∀ i (hi : i < l.length), P i l[i] := by
  induction n with
  | zero => exact ⟨[], rfl, fun i hi => by simp at hi⟩
  | succ k ih =>
    obtain ⟨l, hl, hr⟩ := ih (fun i hi => h i (by omega))
    obtain ⟨r, hr'⟩ := h k (by omega)
    refine ⟨l ++ [r], by simp [hl], fun i hi => ?_⟩
    by_cases e : i < l.length
    · rw [List.getElem_append_left e]; exact hr i e
    · have : i = k := by simp at hi; omega
      subst this
      rw [List.getElem_append_right (by omega)]
      simpa [hl] using hr'
theorem list2 {α : Type} {l : List α} (h : l.length = 2) : ∃ a b, l = [a, b] := by
  match l, h with
  | [a, b], _ => exact ⟨a, b, rfl⟩
theorem list3 {α : Type} {l : List α} (h : l.length = 3) : ∃ a b c, l = [a, b, c] := by
  match l, h with
  | [a, b, c], _ => exact ⟨a, b, c, rfl⟩
theorem list5 {α : Type} {l : List α} (h : l.length = 5) : ∃ a b c d e, l = [a, b, c, d, e] := by
  match l, h with
  | [a, b, c, d, e], _ => exact ⟨a, b, c, d, e, rfl⟩

section
variable {H : Type} {enc : TypeId × Value → H} {W : World} {spare : Nat → Bool} {held : Bool}

theorem int_open {fuel : Nat} {v : Value} {x : DataW H × List MemPlace} (h : DataW.trod enc Try.prog W 0 spare held fuel 3 [v] = some x) : ∃ z, v = .int .i64 z := by
  obtain ⟨z, hz, _⟩ := DataW.trod_int Try.underlying3 h
  exact ⟨z, by simpa using hz⟩
theorem range_open {fuel : Nat} {cs : List Value} {x : DataW H × List MemPlace} (h : DataW.trod enc Try.prog W 0 spare held fuel 23 cs = some x) : ∃ lo hi, cs = [.int .i64 lo, .int .i64 hi] := by
  obtain ⟨y0, y1, n, _, hl, h0, h1⟩ := trod_struct2 Try.underlying23 h
  rw [Try.cells23] at hl
  obtain ⟨a, b, rfl⟩ := list2 hl
  simp only [Try.cells3, List.drop_zero, List.take_succ_cons, List.take_zero, List.drop_succ_cons] at h0 h1
  obtain ⟨z0, rfl⟩ := int_open h0
  obtain ⟨z1, rfl⟩ := int_open h1
  exact ⟨z0, z1, rfl⟩
theorem night_open {fuel : Nat} {cs : List Value} {x : DataW H × List MemPlace} (h : DataW.trod enc Try.prog W 0 spare held fuel 80 cs = some x) : ∃ n : Nt, cs = [.int .i64 n.h, .int .i64 n.a, .int .i64 n.b, .int .i64 n.lo, .int .i64 n.hi] := by
  obtain ⟨y0, y1, y2, y3, n, _, hl, h0, h1, h2, h3⟩ := trod_struct4 Try.underlying80 h
  rw [Try.cells80] at hl
  obtain ⟨a, b, c, d, e, rfl⟩ := list5 hl
  simp only [Try.cells3, Try.cells23, List.drop_zero, List.take_succ_cons, List.take_zero, List.drop_succ_cons] at h0 h1 h2 h3
  obtain ⟨z0, rfl⟩ := int_open h0
  obtain ⟨z1, rfl⟩ := int_open h1
  obtain ⟨z2, rfl⟩ := int_open h2
  obtain ⟨lo, hi, e3⟩ := range_open h3
  simp only [List.cons.injEq, and_true] at e3
  obtain ⟨rfl, rfl⟩ := e3
  exact ⟨⟨z0, z1, z2, lo, hi⟩, rfl⟩
theorem dip_open {fuel : Nat} {cs : List Value} {x : DataW H × List MemPlace} (h : DataW.trod enc Try.prog W 0 spare held fuel 85 cs = some x) : ∃ d : Dp, cs = [.int .i64 d.n, .int .i64 d.lo, .int .i64 d.hi] := by
  obtain ⟨y0, y1, n, _, hl, h0, h1⟩ := trod_struct2 Try.underlying85 h
  rw [Try.cells85] at hl
  obtain ⟨a, b, c, rfl⟩ := list3 hl
  simp only [Try.cells3, Try.cells23, List.drop_zero, List.take_succ_cons, List.take_zero, List.drop_succ_cons] at h0 h1
  obtain ⟨z0, rfl⟩ := int_open h0
  obtain ⟨lo, hi, e3⟩ := range_open h1
  simp only [List.cons.injEq, and_true] at e3
  obtain ⟨rfl, rfl⟩ := e3
  exact ⟨⟨z0, lo, hi⟩, rfl⟩

theorem nights_open {fuel : Nat} {v : Value} {x : DataW H × List MemPlace} (h : DataW.trod enc Try.prog W 0 spare held fuel 24 [v] = some x) :
    ∃ A cap l, v = .slice A (List.length l) cap ∧ NtsAt W A l := by
  rcases open_slice Try.underlying24 h with ⟨e, _⟩ | ⟨a, len, cap, m, n, D, Pl, e, _, hl, _, hm, hx, hi⟩
  · simp only [List.cons.injEq, and_true] at e
    exact ⟨none, 0, [], e, .inl rfl⟩
  · simp only [List.cons.injEq, and_true] at e
    subst e
    have hlm : len ≤ m := by subst hm; split <;> omega
    have hcell : ∀ i, i < len → ∃ r : Nt, W.cell? (a.add (i * 5)) = some (.int .i64 r.h) ∧ W.cell? (a.add (i * 5 + 1)) = some (.int .i64 r.a) ∧ W.cell? (a.add (i * 5 + 2)) = some (.int .i64 r.b) ∧ W.cell? (a.add (i * 5 + 3)) = some (.int .i64 r.lo) ∧ W.cell? (a.add (i * 5 + 4)) = some (.int .i64 r.hi) := by
      intro i hil
      obtain ⟨cs', hc, ht⟩ := hi i (by omega)
      rw [Try.cells80] at hc
      obtain ⟨_, hcl, hat⟩ := World.cells?_some hc
      obtain ⟨r, rfl⟩ := night_open ht
      have g : ∀ j, j < 5 → W.cell? (a.add (i * 5 + j)) = [Value.int .i64 r.h, .int .i64 r.a, .int .i64 r.b, .int .i64 r.lo, .int .i64 r.hi][j]? := fun j hj => by
        have := hat j hj
        rw [add_add] at this
        exact this
      exact ⟨r, g 0 (by omega), g 1 (by omega), g 2 (by omega), g 3 (by omega), g 4 (by omega)⟩
    obtain ⟨l, hll, hlr⟩ := list_choose hcell
    subst hll
    refine ⟨some a, cap, l, rfl, ?_⟩
    by_cases h0 : l = []
    · exact .inl h0
    · obtain ⟨b, o, spot⟩ := a
      have hpos : 0 < l.length := List.length_pos_iff.2 h0
      have hc := (hlr 0 hpos).1
      have hsp : spot = none := by simpa [Addr.add] using World.cell?_spot hc
      subst hsp
      refine .inr ⟨b, o, rfl, fun i hi => ?_⟩
      obtain ⟨g0, g1, g2, g3, g4⟩ := hlr i hi
      simp only [add_at] at g0 g1 g2 g3 g4
      exact ⟨g0, g1, g2, g3, g4⟩
theorem dips_open {fuel : Nat} {v : Value} {x : DataW H × List MemPlace} (h : DataW.trod enc Try.prog W 0 spare held fuel 55 [v] = some x) :
    ∃ A cap l, v = .slice A (List.length l) cap ∧ DpsAt W A l := by
  rcases open_slice Try.underlying55 h with ⟨e, _⟩ | ⟨a, len, cap, m, n, D, Pl, e, _, hl, _, hm, hx, hi⟩
  · simp only [List.cons.injEq, and_true] at e
    exact ⟨none, 0, [], e, .inl rfl⟩
  · simp only [List.cons.injEq, and_true] at e
    subst e
    have hlm : len ≤ m := by subst hm; split <;> omega
    have hcell : ∀ i, i < len → ∃ r : Dp, W.cell? (a.add (i * 3)) = some (.int .i64 r.n) ∧ W.cell? (a.add (i * 3 + 1)) = some (.int .i64 r.lo) ∧ W.cell? (a.add (i * 3 + 2)) = some (.int .i64 r.hi) := by
      intro i hil
      obtain ⟨cs', hc, ht⟩ := hi i (by omega)
      rw [Try.cells85] at hc
      obtain ⟨_, hcl, hat⟩ := World.cells?_some hc
      obtain ⟨r, rfl⟩ := dip_open ht
      have g : ∀ j, j < 3 → W.cell? (a.add (i * 3 + j)) = [Value.int .i64 r.n, .int .i64 r.lo, .int .i64 r.hi][j]? := fun j hj => by
        have := hat j hj
        rw [add_add] at this
        exact this
      exact ⟨r, g 0 (by omega), g 1 (by omega), g 2 (by omega)⟩
    obtain ⟨l, hll, hlr⟩ := list_choose hcell
    subst hll
    refine ⟨some a, cap, l, rfl, ?_⟩
    by_cases h0 : l = []
    · exact .inl h0
    · obtain ⟨b, o, spot⟩ := a
      have hpos : 0 < l.length := List.length_pos_iff.2 h0
      have hc := (hlr 0 hpos).1
      have hsp : spot = none := by simpa [Addr.add] using World.cell?_spot hc
      subst hsp
      refine .inr ⟨b, o, rfl, fun i hi => ?_⟩
      obtain ⟨g0, g1, g2⟩ := hlr i hi
      simp only [add_at] at g0 g1 g2
      exact ⟨g0, g1, g2⟩
theorem ints_open {fuel : Nat} {v : Value} {x : DataW H × List MemPlace} (h : DataW.trod enc Try.prog W 0 spare held fuel 27 [v] = some x) :
    ∃ A cap xs, v = .slice A (List.length xs) cap ∧ IntsAt W (.slice A (List.length xs) cap) xs ∧ NilOk A cap := by
  rcases open_ints Try.underlying27 Try.underlying3 Try.cells3 h with ⟨e, _⟩ | ⟨a, len, cap, zs, e, _, hl, hm, hz, _, hcell, hwz⟩
  · simp only [List.cons.injEq, and_true] at e
    exact ⟨none, 0, [], e, IntsAt.nil _, fun _ => rfl⟩
  · simp only [List.cons.injEq, and_true] at e
    subst e
    have hlz : len ≤ zs.length := by rw [hz]; split <;> omega
    have hlen : (zs.take len).length = len := by simp; omega
    refine ⟨some a, cap, zs.take len, by rw [hlen], ⟨_, _, rfl, ?_⟩, fun h => by cases h⟩
    by_cases h0 : len = 0
    · exact .inl (by rw [h0]; rfl)
    · obtain ⟨b, o, spot⟩ := a
      have hc := hcell 0 (by omega)
      have hsp : spot = none := by simpa [Addr.add] using World.cell?_spot hc
      subst hsp
      refine .inr ⟨b, o, rfl, fun i hi => ?_⟩
      have hi2 : i < zs.length := by omega
      have := hcell i hi2
      rw [add_at] at this
      rw [this, List.getElem_take]
      simp [hi2]

set_option maxRecDepth 100000 in
theorem store_open {v : Value} {d : DataW H} {p : List MemPlace} (hv : Value.okWide Try.prog W .any 0 26 v) (h : DataW.Trod enc Try.prog W 0 spare held 26 v d p) :
    ∃ (s : St) (A : Option Addr) (cp : Nat), v = .agg #[.int .i64 s.cap, .int .i64 s.can, .int .i64 s.sl, .int .i64 s.sh, .slice A s.ns.length cp] ∧ NtsAt W A s.ns := by
  obtain ⟨cs, rfl, hsz⟩ := okWide_struct Try.underlying26 hv
  obtain ⟨fuel, hf⟩ := h
  obtain ⟨y0, y1, y2, y3, n, _, hl, h0, h1, h2, h3⟩ := trod_struct4 Try.underlying26 hf
  have hl' : cs.toList.length = 5 := by simpa [Try.cells26] using hsz
  obtain ⟨a, b, c, d, e, hcs⟩ := list5 hl'
  obtain rfl : cs = #[a, b, c, d, e] := by cases cs; simp_all
  simp only [Value.cells, Try.cells3, Try.cells23, Try.cells24, List.drop_zero, List.take_succ_cons, List.take_zero, List.drop_succ_cons] at h0 h1 h2 h3
  obtain ⟨z0, rfl⟩ := int_open h0
  obtain ⟨z1, rfl⟩ := int_open h1
  obtain ⟨lo, hi, e2⟩ := range_open h2
  simp only [List.cons.injEq, and_true] at e2
  obtain ⟨rfl, rfl⟩ := e2
  obtain ⟨A, cap, l, rfl, hA⟩ := nights_open h3
  exact ⟨⟨z0, z1, lo, hi, l⟩, A, cap, rfl, hA⟩
set_option maxRecDepth 100000 in
theorem plan_open {v : Value} {d : DataW H} {p : List MemPlace} (hv : Value.okWide Try.prog W .any 0 29 v) (h : DataW.Trod enc Try.prog W 0 spare held 29 v d p) :
    ∃ A B cap cap2 ts cs, v = .agg #[.slice A (List.length ts) cap, .slice B (List.length cs) cap2] ∧ IntsAt W (.slice A (List.length ts) cap) ts ∧ IntsAt W (.slice B (List.length cs) cap2) cs ∧ NilOk A cap ∧ NilOk B cap2 := by
  obtain ⟨v0, v1, y0, y1, n, rfl, _, _, h0, h1⟩ := open_agg2 Try.underlying29 (by kernel_rfl) Try.cells29 hv h
  obtain ⟨A, cap, ts, rfl, hI, hN⟩ := ints_open h0
  obtain ⟨B, cap2, cs, rfl, hI2, hN2⟩ := ints_open h1
  exact ⟨A, B, cap, cap2, ts, cs, rfl, hI, hI2, hN, hN2⟩
set_option maxRecDepth 100000 in
theorem truth_open {v : Value} {d : DataW H} {p : List MemPlace} (hv : Value.okWide Try.prog W .any 0 31 v) (h : DataW.Trod enc Try.prog W 0 spare held 31 v d p) :
    ∃ t A cap ts, v = .agg #[.int .i64 t, .slice A (List.length ts) cap] ∧ IntsAt W (.slice A (List.length ts) cap) ts ∧ NilOk A cap := by
  obtain ⟨v0, v1, y0, y1, n, rfl, _, _, h0, h1⟩ := open_agg2 Try.underlying31 (by kernel_rfl) Try.cells31 hv h
  obtain ⟨t, rfl⟩ := int_open h0
  obtain ⟨A, cap, ts, rfl, hI, hN⟩ := ints_open h1
  exact ⟨t, A, cap, ts, rfl, hI, hN⟩
set_option maxRecDepth 100000 in
theorem list_open {v : Value} {d : DataW H} {p : List MemPlace} (hv : Value.okWide Try.prog W .any 0 27 v) (h : DataW.Trod enc Try.prog W 0 spare held 27 v d p) :
    ∃ A cap xs, v = .slice A (List.length xs) cap ∧ IntsAt W (.slice A (List.length xs) cap) xs ∧ NilOk A cap := by
  obtain ⟨a, len, cap, rfl⟩ := okWide_slice Try.underlying27 hv
  obtain ⟨fuel, hf⟩ := h
  exact ints_open hf
set_option maxRecDepth 100000 in
theorem diplist_open {v : Value} {d : DataW H} {p : List MemPlace} (hv : Value.okWide Try.prog W .any 0 55 v) (h : DataW.Trod enc Try.prog W 0 spare held 55 v d p) :
    ∃ A cap l, v = .slice A (List.length l) cap ∧ DpsAt W A l := by
  obtain ⟨a, len, cap, rfl⟩ := okWide_slice Try.underlying55 hv
  obtain ⟨fuel, hf⟩ := h
  exact dips_open hf
set_option maxRecDepth 100000 in
theorem dipone_open {v : Value} {d : DataW H} {p : List MemPlace} (hv : Value.okWide Try.prog W .any 0 85 v) (h : DataW.Trod enc Try.prog W 0 spare held 85 v d p) :
    ∃ d : Dp, v = .agg #[.int .i64 d.n, .int .i64 d.lo, .int .i64 d.hi] := by
  obtain ⟨cs, rfl, hsz⟩ := okWide_struct Try.underlying85 hv
  obtain ⟨fuel, hf⟩ := h
  have hl' : cs.toList.length = 3 := by simpa [Try.cells85] using hsz
  obtain ⟨a, b, c, hcs⟩ := list3 hl'
  obtain rfl : cs = #[a, b, c] := by cases cs; simp_all
  obtain ⟨r, hr⟩ := dip_open hf
  simp only [Value.cells, List.cons.injEq, and_true] at hr
  obtain ⟨rfl, rfl, rfl⟩ := hr
  exact ⟨r, rfl⟩
end
end Go.Proofs.Ytefhdcecbmgljaa

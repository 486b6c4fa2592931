/-
  Thin, list, Cut, Net: the laws' copies.
-/
import Derived.Test.YtkloaeaepjoijaaAwake
import Derived.Laws.AppendOwnNone
set_option linter.all false
namespace Go.Proofs.Ytkloaeaepjoijaa
open Go.RowKit Go.WalkArith

theorem Try.info104 : (Try.prog.info? 104).map (fun i => (i.zero, i.size, i.bytes)) = some (some (.agg #[.int .i64 0, .int .i64 0, .int .i64 0, .int .i64 0]), 4, 32) := by kernel_rfl

theorem add_at (b o j : Nat) : (⟨b, o, none⟩ : Addr).add j = ⟨b, o + j, none⟩ := by
  unfold Addr.add
  by_cases h : j = 0
  · subst h; simp
  · simp [h]

theorem cell_block {w w' : World} {p : Addr} (h : w'.heap[p.block]? = w.heap[p.block]?) : w'.cell? p = w.cell? p := by simp [World.cell?, h]
theorem cell_set2 {w : World} {B Bi k i j : Nat} {x y : Value} (_ : True) (h : Bi ≠ B) : ((w.setCell ⟨B, i, none⟩ x).setCell ⟨B, j, none⟩ y).cell? ⟨Bi, k, none⟩ = w.cell? ⟨Bi, k, none⟩ :=
  cell_block ((Below.heap_setCell _ _ _ _ h).trans (Below.heap_setCell _ _ _ _ h))

set_option maxRecDepth 100000 in
theorem thin_any (A : Option Addr) (n cap : Nat) (T C : Int) (w : World) :
    Calls Try.prog 19 #[.agg #[.slice A n cap, .int .i64 T, .int .i64 C]] w fun e w' => e = .returned (.bool (decide (n ≤ 15))) ∧ Below w.heap.size w w' := by
  have hd : decide (n ≤ 15) = decide ((n : Int) ≤ 15) := decide_eq_decide.2 (by omega)
  go_enter Try.func19, Try.ntmps19
  go_wp2_with fail
  go_ret
  exact ⟨by rw [hd]; rfl, (Below.refl _ _).alloc (Nat.le_refl _) _⟩

set_option maxRecDepth 100000 in
set_option maxHeartbeats 1000000 in
theorem list_any (A : Option Addr) (cap : Nat) (xs : List Int) (w : World) (h0 : A = none → cap = 0) (hv : IntsAt w (.slice A xs.length cap) xs) (hn : xs.length ≤ 1000000) :
    Calls Try.prog 23 #[.slice A xs.length cap] w fun e w' => ∃ v, e = .returned v ∧ IntsAt w' v xs ∧ Below w.heap.size w w' := by
  obtain ⟨i0, hi0, hz0, hz1, hz2⟩ := info_parts Try.info3
  obtain ⟨A', cap', he, hx⟩ := hv
  obtain ⟨rfl, rfl⟩ : A = A' ∧ cap = cap' := by simpa using he
  clear he
  go_enter Try.func23, Try.ntmps23
  cases A with
  | none =>
    obtain rfl := h0 rfl
    have hxs : xs = [] := by
      rcases hx with h | ⟨b, o, h, _⟩
      · exact h
      · cases h
    subst hxs
    simp only [List.length_nil]
    go_wp2_with (at_builtin; refine wpList_append_own_none rfl _ _ 25 rfl w.heap.size 3 i0 1 Try.underlying25 hi0 (.slice none 0 0) 0 [] rfl (World.ownsRow_nil _ _ _ _) rfl ?_)
    go_ret
    exact ⟨_, rfl, IntsAt.nil _, Below.refl _ _⟩
  | some ad =>
    have hc : ∀ j u, (xs.map (Value.int .i64))[j]? = some u → w.cell? (ad.add j) = some u := by
      intro j u hu
      rcases hx with rfl | ⟨b, o, ha, hc⟩
      · simp at hu
      · cases ha
        rw [List.getElem?_map] at hu
        obtain ⟨y, hy, rfl⟩ := Option.map_eq_some_iff.1 hu
        obtain ⟨hj, rfl⟩ := List.getElem?_eq_some_iff.1 hy
        rw [add_at]; exact hc j hj
    have HC := Lib.hid hc
    clear hc hx
    go_wp2_with (at_builtin; refine wpList_append_own _ rfl _ _ 25 rfl w.heap.size 3 i0 (.int .i64 0) 1 8 Try.underlying25 hi0 hz0 hz1 hz2 rfl (by decide) (.slice none 0 0) 0 [] rfl (World.ownsRow_nil _ _ _ _) ad xs.length cap (xs.map (Value.int .i64)) rfl (by simp) HC.out ?c2 ?c3 ?c4 ?c5 ?_)
    case c2 => intro u hu; simp only [List.mem_map] at hu; obtain ⟨y, _, rfl⟩ := hu; rfl
    case c3 => unfold maxLen; omega
    case c4 => omega
    case c5 => omega
    intro v' w' hown hgr _
    have hI : IntsAt w' v' xs := IntsAt.of_own (by simpa using hown)
    have hB : Below w.heap.size w w' := ⟨hgr.os, hgr.tape, hgr.output, hgr.size, fun j hj => hgr.block j hj (by simp [Value.ownBlock])⟩
    have HI := Lib.hid hI
    have HB := Lib.hid hB
    clear hI hB hown hgr
    go_wp2_with fail
    go_ret
    exact ⟨_, rfl, HI.out, HB.out⟩

theorem IntsAt.of_others {W W' : World} {v : Value} {xs : List Int} {Bo t : Nat} {fr : Nat × Nat} {a d : Option Addr} {b c e f : Nat} (h : IntsAt W v xs) (ho : ∀ j, j ≠ Bo → W'.heap[j]? = W.heap[j]?) (hk : W.heap[Bo]? = some (.cells #[.slice a b c, .slice d e f] t fr)) : IntsAt W' v xs := by
  obtain ⟨A, cap, rfl, h2⟩ := h
  refine ⟨A, cap, rfl, ?_⟩
  rcases h2 with h2 | ⟨g, o, rfl, h4⟩
  · exact .inl h2
  · refine .inr ⟨g, o, rfl, fun i hi => ?_⟩
    have hc := h4 i hi
    by_cases e : g = Bo
    · subst e
      exfalso
      simp only [World.cell?, hk] at hc
      obtain h | h | h : o + i = 0 ∨ o + i = 1 ∨ 2 ≤ o + i := by omega
      · rw [h] at hc; simp at hc
      · rw [h] at hc; simp at hc
      · rw [Array.getElem?_eq_none (by simpa using h)] at hc; cases hc
    · rw [cell_block (ho g e)]; exact hc

/-- A slice that can be an argument's. -/
def NilOk (A : Option Addr) (cap : Nat) : Prop := A = none → cap = 0

set_option maxRecDepth 100000 in
set_option maxHeartbeats 1000000 in
theorem cut_any (A B : Option Addr) (cap cap2 : Nat) (ts cs : List Int) (w : World) (h0 : NilOk A cap) (h1 : NilOk B cap2) (ht : IntsAt w (.slice A ts.length cap) ts) (hc : IntsAt w (.slice B cs.length cap2) cs) (hn : ts.length ≤ 1000000) (hm : cs.length ≤ 1000000) :
    Calls Try.prog 25 #[.agg #[.slice A ts.length cap, .slice B cs.length cap2]] w fun e w' => ∃ u v, e = .returned (.agg #[u, v]) ∧ IntsAt w' u ts ∧ IntsAt w' v cs ∧ Below w.heap.size w w' := by
  have hB : Below w.heap.size w ((w.alloc (.cells #[.slice A ts.length cap, .slice B cs.length cap2] 27)).alloc (.cells #[.slice none 0 0, .slice none 0 0] 37)) := ((Below.refl _ _).alloc (Nat.le_refl _) _).alloc (by simp) _
  have hn0 : ((w.alloc (.cells #[.slice A ts.length cap, .slice B cs.length cap2] 27)).alloc (.cells #[.slice none 0 0, .slice none 0 0] 37)).heap[w.heap.size]? = some (.cells #[.slice A ts.length cap, .slice B cs.length cap2] 27 (0, 0)) := (Below.heap_alloc _ _ _ (by simp)).trans (heap_new_at _ _ _ rfl)
  have hu0 := heap_alloc2 w (.cells #[.slice A ts.length cap, .slice B cs.length cap2] 27) (.cells #[.slice none 0 0, .slice none 0 0] 37)
  go_enter Try.func25, Try.ntmps25
  go_wp2_with fail
  generalize (w.alloc (.cells #[.slice A ts.length cap, .slice B cs.length cap2] 27)).alloc (.cells #[.slice none 0 0, .slice none 0 0] 37) = w1 at hB hn0 hu0 ⊢
  obtain ⟨Bi, hBi⟩ : ∃ Bi, w.heap.size = Bi := ⟨_, rfl⟩
  obtain ⟨Bo, hBo⟩ : ∃ Bo, w.heap.size + 1 = Bo := ⟨_, rfl⟩
  have o1 : w.heap.size ≤ Bo := by omega
  have o2 : Bi ≠ Bo := by omega
  rw [hBo] at hu0 ⊢
  rw [hBi] at hn0 ⊢
  clear hBi hBo
  have x0 : w1.cell? ⟨Bi, 0, none⟩ = some (.slice A ts.length cap) := by simp [World.cell?, hn0]
  have x1 : w1.cell? ⟨Bi, 1, none⟩ = some (.slice B cs.length cap2) := by simp [World.cell?, hn0]
  have hu0l := (Array.getElem?_eq_some_iff.1 hu0).1
  have h23 := Lib.hid (list_any A cap ts w1.drew h0 (ht.keep hB.drew (Nat.le_refl _)) hn)
  have HB := Lib.hid hB
  have HU := Lib.hid hu0
  have HC := Lib.hid hc
  clear hB hn0 hu0 ht hc
  refine wp_region_held_drew (S := fun X => X.cell? ⟨Bi, 0, none⟩ = some (.slice A ts.length cap) ∧ X.cell? ⟨Bi, 1, none⟩ = some (.slice B cs.length cap2)) (by kernel_rfl) (⟨x0, x1⟩) (fun hS0 => ?_)
  refine wpAnyH_take (i := 0) (oi := { dst := some 3, op := Op.fieldAddr 27 (Operand.tmp 1) 0, type := 0, pos := "law.go:25", after := #[], guard := none }) (v := ?_) rfl (by kernel_rfl) (by kernel_rfl) (by kernel_rfl) (fun _ _ _ h => h) (Or.inl ⟨by rfl, ?_⟩) hS0 ?_
  rotate_left
  · intro X hX
    obtain ⟨x0, x1⟩ := hX
    go_simp
    try with_reducible rfl
  simp only [Act.put, List.setIfInBounds_toArray, List.set_cons_zero, List.set_cons_succ, Array.toArray_toList]
  refine wpAnyH_take (i := 1) (oi := { dst := some 4, op := Op.load 25 (Operand.tmp 3), type := 25, pos := "law.go:25", after := #[{ on := 0, ground := Ground.data }], guard := none }) (v := ?_) rfl (by kernel_rfl) (by kernel_rfl) (by kernel_rfl) (fun _ _ _ h => h) (Or.inl ⟨by rfl, ?_⟩) hS0 ?_
  rotate_left
  · intro X hX
    obtain ⟨x0, x1⟩ := hX
    go_simp
    try with_reducible rfl
  simp only [Act.put, List.setIfInBounds_toArray, List.set_cons_zero, List.set_cons_succ, Array.toArray_toList]
  refine wpAnyH_take (i := 3) (oi := { dst := some 6, op := Op.fieldAddr 27 (Operand.tmp 1) 1, type := 0, pos := "law.go:25", after := #[], guard := none }) (v := ?_) rfl (by kernel_rfl) (by kernel_rfl) (by kernel_rfl) (fun _ _ _ h => h) (Or.inl ⟨by rfl, ?_⟩) hS0 ?_
  rotate_left
  · intro X hX
    obtain ⟨x0, x1⟩ := hX
    go_simp
    try with_reducible rfl
  simp only [Act.put, List.setIfInBounds_toArray, List.set_cons_zero, List.set_cons_succ, Array.toArray_toList]
  refine wpAnyH_take (i := 4) (oi := { dst := some 7, op := Op.load 25 (Operand.tmp 6), type := 25, pos := "law.go:25", after := #[{ on := 3, ground := Ground.data }], guard := none }) (v := ?_) rfl (by kernel_rfl) (by kernel_rfl) (by kernel_rfl) (fun _ _ _ h => h) (Or.inl ⟨by rfl, ?_⟩) hS0 ?_
  rotate_left
  · intro X hX
    obtain ⟨x0, x1⟩ := hX
    go_simp
    try with_reducible rfl
  simp only [Act.put, List.setIfInBounds_toArray, List.set_cons_zero, List.set_cons_succ, Array.toArray_toList]
  refine wpAnyH_ready (rs := [2]) (by kernel_rfl) (by simp) (AllReadyH.cons (o := { dst := some 5, op := Op.call { callee := Callee.value (Operand.func 23), args := #[Operand.tmp 4], argTypes := #[25] }, type := 25, pos := "law.go:25", after := #[{ on := 1, ground := Ground.data }], guard := none }) rfl (fun K hK => ?_) AllReadyH.nil)
  go_simp
  refine h23.out.mono ?_
  rintro e w2 ⟨u, rfl, hu2, hb2⟩
  have y0 := cell_later hb2 x0
  have y1 := cell_later hb2 x1
  have B2 : Below w.heap.size w w2 := HB.out.drew.trans (hb2.mono HB.out.drew.size)
  have HU2 := Lib.hid hu2
  have HB2 := Lib.hid B2
  have hk2 := Lib.hid ((hb2.block Bo hu0l).trans HU.out)
  clear B2 hu2
  go_wp2_with fail
  refine hK.out _ _ (⟨y0, y1⟩) (fun hS1 => ?_)
  clear hS0 hK K
  refine wpAnyH_ready (rs := [5]) (by kernel_rfl) (by simp) (AllReadyH.cons (o := { dst := some 8, op := Op.call { callee := Callee.value (Operand.func 23), args := #[Operand.tmp 7], argTypes := #[25] }, type := 25, pos := "law.go:25", after := #[{ on := 4, ground := Ground.data }, { on := 2, ground := Ground.chain }], guard := none }) rfl (fun K hK => ?_) AllReadyH.nil)
  go_simp
  refine (list_any B cap2 cs w2 h1 (HC.out.keep HB2.out (Nat.le_refl _)) hm).mono ?_
  rintro e w3 ⟨v, rfl, hv3, hb3⟩
  have z0 := cell_later hb3 y0
  have z1 := cell_later hb3 y1
  have B3 : Below w.heap.size w w3 := HB2.out.trans (hb3.mono HB2.out.size)
  have hu3 := HU2.out.keep hb3 (Nat.le_refl _)
  have hk3 := (hb3.block Bo (Array.getElem?_eq_some_iff.1 hk2.out).1).trans hk2.out
  have hl3 := (Array.getElem?_eq_some_iff.1 hk3).1
  have f0 : w3.frozen? ⟨Bo, 0, none⟩ = false := by simp [World.frozen?, hk3]
  have f1 : w3.frozen? ⟨Bo, 1, none⟩ = false := by simp [World.frozen?, hk3]
  have c0 : w3.cell? ⟨Bo, 0, none⟩ = some (.slice none 0 0) := by simp [World.cell?, hk3]
  have c1 : w3.cell? ⟨Bo, 1, none⟩ = some (.slice none 0 0) := by simp [World.cell?, hk3]
  have HU3 := Lib.hid hu3
  have HV3 := Lib.hid hv3
  obtain ⟨Au, capu, hue, _⟩ := hu3
  obtain ⟨Av, capv, hve, _⟩ := hv3
  have HB3 := Lib.hid B3
  have HK3 := Lib.hid hk3
  clear hb3 B3 hk3
  subst hue hve
  go_wp2_with fail
  refine hK.out _ _ (⟨z0, z1⟩) (fun hS2 => ?_)
  clear hS1 hK K
  refine wpAnyH_take (i := 6) (oi := { dst := some 9, op := Op.build 37 #[(0, Operand.tmp 5), (1, Operand.tmp 8)], type := 37, pos := "law.go:25", after := #[{ on := 2, ground := Ground.data }, { on := 5, ground := Ground.data }], guard := none }) (v := ?_) rfl (by kernel_rfl) (by kernel_rfl) (by kernel_rfl) (fun _ _ _ h => h) (Or.inl ⟨by rfl, ?_⟩) hS2 ?_
  rotate_left
  · intro X hX
    obtain ⟨x0, x1⟩ := hX
    go_simp
    try with_reducible rfl
  simp only [Act.put, List.setIfInBounds_toArray, List.set_cons_zero, List.set_cons_succ, Array.toArray_toList]
  refine wpAnyH_ready (rs := [7]) (by kernel_rfl) (by simp) (AllReadyH.cons (o := { dst := none, op := Op.store 37 (Operand.tmp 2) (Operand.tmp 9), type := 0, pos := "law.go:25", after := #[{ on := 6, ground := Ground.data }, { on := 5, ground := Ground.chain }, { on := 0, ground := Ground.phase }, { on := 1, ground := Ground.phase }, { on := 2, ground := Ground.phase }, { on := 3, ground := Ground.phase }, { on := 4, ground := Ground.phase }, { on := 5, ground := Ground.phase }, { on := 6, ground := Ground.phase }], guard := none }) rfl (fun K hK => ?_) AllReadyH.nil)
  go_simp
  refine hK.out _ _ (⟨(cell_set2 trivial o2).trans z0, (cell_set2 trivial o2).trans z1⟩) (fun hS3 => ?_)
  clear hS2 hK K
  refine wpAnyH_done (by kernel_rfl) ?_ _
  clear hS3
  have hs4 : ∀ j, j ≠ Bo → ((w3.setCell ⟨Bo, 0, none⟩ (.slice Au ts.length capu)).setCell ⟨Bo, 1, none⟩ (.slice Av cs.length capv)).heap[j]? = w3.heap[j]? := fun j hj => (Below.heap_setCell _ _ _ _ hj).trans (Below.heap_setCell _ _ _ _ hj)
  have hk4 : ((w3.setCell ⟨Bo, 0, none⟩ (.slice Au ts.length capu)).setCell ⟨Bo, 1, none⟩ (.slice Av cs.length capv)).heap[Bo]? = some (.cells #[.slice Au ts.length capu, .slice Av cs.length capv] 37 (0, 0)) := set_two HK3.out _ _
  have hB4 : Below w.heap.size w ((w3.setCell ⟨Bo, 0, none⟩ (.slice Au ts.length capu)).setCell ⟨Bo, 1, none⟩ (.slice Av cs.length capv)) := (HB3.out.setCell (by simp; omega) _).setCell (by simp; omega) _
  generalize (w3.setCell ⟨Bo, 0, none⟩ (.slice Au ts.length capu)).setCell ⟨Bo, 1, none⟩ (.slice Av cs.length capv) = w4 at hs4 hk4 hB4 ⊢
  have hu4 := HU3.out.of_others hs4 HK3.out
  have hv4 := HV3.out.of_others hs4 HK3.out
  have k0 : w4.cell? ⟨Bo, 0, none⟩ = some (.slice Au ts.length capu) := by simp [World.cell?, hk4]
  have k1 : w4.cell? ⟨Bo, 1, none⟩ = some (.slice Av cs.length capv) := by simp [World.cell?, hk4]
  have HU4 := Lib.hid hu4
  have HV4 := Lib.hid hv4
  have HB4 := Lib.hid hB4
  clear hu4 hv4 hB4 hk4 hs4 HU3 HV3 HB3 HK3 z0 z1 y0 y1 x0 x1 c0 c1 f0 f1
  go_wp2_with fail
  exact bodyPost_ret (v := .agg #[.slice Au ts.length capu, .slice Av cs.length capv]) (by simp [results, Try.results25, go_sem, k0, k1]) rfl ⟨_, _, rfl, HU4.out, HV4.out, HB4.out⟩

/-- Angles one behind the other. -/
def flatA (l : List Ang) : List Value := l.flatMap fun a => [.int .i64 a.t, .int .i64 a.c, .int .i64 a.r, .int .i64 a.g]
theorem flatA_length (l : List Ang) : (flatA l).length = l.length * 4 := by
  induction l with
  | nil => rfl
  | cons a l ih => simp only [flatA, List.flatMap_cons, List.length_append] at ih ⊢; rw [ih]; simp; omega
theorem flatA_snoc (l : List Ang) (a : Ang) : flatA (l ++ [a]) = flatA l ++ [.int .i64 a.t, .int .i64 a.c, .int .i64 a.r, .int .i64 a.g] := by simp [flatA, List.flatMap_append]
theorem flatA_get : ∀ (l : List Ang) (i : Nat) (h : i < l.length), (flatA l)[i * 4]? = some (.int .i64 l[i].t) ∧ (flatA l)[i * 4 + 1]? = some (.int .i64 l[i].c) ∧ (flatA l)[i * 4 + 2]? = some (.int .i64 l[i].r) ∧ (flatA l)[i * 4 + 3]? = some (.int .i64 l[i].g)
  | [], i, h => by simp at h
  | a :: l, 0, h => by simp [flatA]
  | a :: l, i + 1, h => by
    have := flatA_get l i (by simpa using h)
    have e : flatA (a :: l) = [.int .i64 a.t, .int .i64 a.c, .int .i64 a.r, .int .i64 a.g] ++ flatA l := by simp [flatA]
    rw [e, show (i + 1) * 4 = i * 4 + 4 by omega]
    rw [List.getElem?_append_right (by simp), List.getElem?_append_right (by simp), List.getElem?_append_right (by simp), List.getElem?_append_right (by simp)]
    simpa [Nat.add_sub_cancel, show i * 4 + 4 + 1 - 4 = i * 4 + 1 by omega, show i * 4 + 4 + 2 - 4 = i * 4 + 2 by omega, show i * 4 + 4 + 3 - 4 = i * 4 + 3 by omega] using this

theorem angs_of_own {W : World} {base t : Nat} {v : Value} {l : List Ang} (h : W.ownsRow base t 4 v l.length (flatA l)) : ∃ A cap, v = .slice A l.length cap ∧ NilOk A cap ∧ AngsAt W A l := by
  obtain ⟨_, ⟨rfl, h0⟩ | ⟨g, cap, cur, rfl, _, hh, _, _, _, ht⟩⟩ := h
  · have : l = [] := List.length_eq_zero_iff.1 h0
    subst this
    exact ⟨none, 0, rfl, fun _ => rfl, .inl rfl⟩
  · refine ⟨some ⟨g, 0, none⟩, cap, rfl, (fun h => by cases h), .inr ⟨g, 0, rfl, fun i hi => ?_⟩⟩
    have := flatA_get l i hi
    rw [← ht, List.getElem?_take_of_lt (by omega), List.getElem?_take_of_lt (by omega), List.getElem?_take_of_lt (by omega), List.getElem?_take_of_lt (by omega)] at this
    simp only [Array.getElem?_toList] at this
    rw [Nat.zero_add]
    obtain ⟨a1, a2, a3, a4⟩ := this
    refine ⟨?_, ?_, ?_, ?_⟩
    · rw [show W.cell? ⟨g, i * 4, none⟩ = cur[i * 4]? by simp [World.cell?, hh]]; exact a1
    · rw [show W.cell? ⟨g, i * 4 + 1, none⟩ = cur[i * 4 + 1]? by simp [World.cell?, hh]]; exact a2
    · rw [show W.cell? ⟨g, i * 4 + 2, none⟩ = cur[i * 4 + 2]? by simp [World.cell?, hh]]; exact a3
    · rw [show W.cell? ⟨g, i * 4 + 3, none⟩ = cur[i * 4 + 3]? by simp [World.cell?, hh]]; exact a4

theorem own_of_blocks {w w' : World} {base e size n : Nat} {v : Value} {xs : List Value} (h : w.ownsRow base e size v n xs) (hb : ∀ g, v.ownBlock = some g → w'.heap[g]? = w.heap[g]?) : w'.ownsRow base e size v n xs := by
  obtain ⟨h1, h2 | ⟨g, cap, cur, rfl, h3, h4, h5⟩⟩ := h
  · exact ⟨h1, .inl h2⟩
  · exact ⟨h1, .inr ⟨g, cap, cur, rfl, h3, (hb g rfl).trans h4, h5⟩⟩

theorem own_slice {w : World} {base e size n : Nat} {v : Value} {xs : List Value} (h : w.ownsRow base e size v n xs) : ∃ A cap, v = .slice A n cap := by
  obtain ⟨_, ⟨rfl, rfl⟩ | ⟨g, cap, cur, rfl, _⟩⟩ := h
  · exact ⟨none, 0, rfl⟩
  · exact ⟨_, cap, rfl⟩

theorem set_one {w : World} {B t : Nat} {x y z : Value} {fr : Nat × Nat} (h : w.heap[B]? = some (.cells #[x, y, z] t fr)) (x' : Value) :
    (w.setCell ⟨B, 0, none⟩ x').heap[B]? = some (.cells #[x', y, z] t fr) := by
  obtain ⟨hlt, hg⟩ := Array.getElem?_eq_some_iff.1 h
  simp [World.setCell, hlt, Array.getElem_modify, hg]
theorem set_three {w : World} {B t : Nat} {x y z : Value} {fr : Nat × Nat} (h : w.heap[B]? = some (.cells #[x, y, z] t fr)) (x' y' z' : Value) :
    (((w.setCell ⟨B, 0, none⟩ x').setCell ⟨B, 1, none⟩ y').setCell ⟨B, 2, none⟩ z').heap[B]? = some (.cells #[x', y', z'] t fr) := by
  obtain ⟨hlt, hg⟩ := Array.getElem?_eq_some_iff.1 h
  simp [World.setCell, hlt, Array.getElem_modify, hg]

def NRel (l : List Ang) (T C : Int) (n base : Nat) (w : World) (Bi Br Bo : Nat) (net : Obj) (i : Value) (wr : World) : Prop :=
  ∃ k : Nat, k ≤ n ∧ i = .int .i64 k ∧ ∃ v, wr.heap[Bo]? = some (.cells #[v, .int .i64 T, .int .i64 C] 33 (0, 0)) ∧ wr.heap[Br]? = some (.cells #[.slice none 0 0, .int .i64 0, .int .i64 0] 33 (0, 0)) ∧ wr.heap[Bi]? = some net ∧ wr.ownsRow base 104 4 v k (flatA (l.take k)) ∧ Below w.heap.size w wr

def NetPost (l : List Ang) (T C : Int) (w : World) (e : Ending) (w' : World) : Prop := ∃ A cap, e = .returned (.agg #[.slice A l.length cap, .int .i64 T, .int .i64 C]) ∧ AngsAt w' A l ∧ NilOk A cap ∧ Below w.heap.size w w'

set_option maxRecDepth 100000 in
set_option maxHeartbeats 2000000 in
theorem net_any (A : Option Addr) (cap : Nat) (T C : Int) (l : List Ang) (w : World) (hA : AngsAt w A l) (hn : l.length ≤ 1000000) :
    Calls Try.prog 22 #[.agg #[.slice A l.length cap, .int .i64 T, .int .i64 C]] w (NetPost l T C w) := by
  obtain ⟨i0, hi0, hz0, hz1, hz2⟩ := info_parts Try.info104
  have hB : Below w.heap.size w (((w.alloc (.cells #[.slice A l.length cap, .int .i64 T, .int .i64 C] 24)).alloc (.cells #[.slice none 0 0, .int .i64 0, .int .i64 0] 33)).alloc (.cells #[.slice none 0 0, .int .i64 T, .int .i64 C] 33)) := (((Below.refl _ _).alloc (Nat.le_refl _) _).alloc (by simp) _).alloc (by simp; omega) _
  have h0 : (((w.alloc (.cells #[.slice A l.length cap, .int .i64 T, .int .i64 C] 24)).alloc (.cells #[.slice none 0 0, .int .i64 0, .int .i64 0] 33)).alloc (.cells #[.slice none 0 0, .int .i64 T, .int .i64 C] 33)).heap[w.heap.size]? = some (.cells #[.slice A l.length cap, .int .i64 T, .int .i64 C] 24 (0, 0)) := by
    rw [Below.heap_alloc _ _ _ (by simp; try omega), Below.heap_alloc _ _ _ (by simp)]; exact heap_new_at _ _ _ rfl
  have h1 : (((w.alloc (.cells #[.slice A l.length cap, .int .i64 T, .int .i64 C] 24)).alloc (.cells #[.slice none 0 0, .int .i64 0, .int .i64 0] 33)).alloc (.cells #[.slice none 0 0, .int .i64 T, .int .i64 C] 33)).heap[w.heap.size + 1]? = some (.cells #[.slice none 0 0, .int .i64 0, .int .i64 0] 33 (0, 0)) := by
    rw [Below.heap_alloc _ _ _ (by simp)]; exact heap_new_at _ _ _ (by simp)
  have h2 : (((w.alloc (.cells #[.slice A l.length cap, .int .i64 T, .int .i64 C] 24)).alloc (.cells #[.slice none 0 0, .int .i64 0, .int .i64 0] 33)).alloc (.cells #[.slice none 0 0, .int .i64 T, .int .i64 C] 33)).heap[w.heap.size + 1 + 1]? = some (.cells #[.slice none 0 0, .int .i64 T, .int .i64 C] 33 (0, 0)) := heap_new_at _ _ _ (by simp)
  go_enter Try.func22, Try.ntmps22
  go_wp2_with fail
  have hsz : (((w.alloc (.cells #[.slice A l.length cap, .int .i64 T, .int .i64 C] 24)).alloc (.cells #[.slice none 0 0, .int .i64 0, .int .i64 0] 33)).alloc (.cells #[.slice none 0 0, .int .i64 T, .int .i64 C] 33)).heap.size = w.heap.size + 1 + 1 + 1 := by simp
  generalize ((w.alloc (.cells #[.slice A l.length cap, .int .i64 T, .int .i64 C] 24)).alloc (.cells #[.slice none 0 0, .int .i64 0, .int .i64 0] 33)).alloc (.cells #[.slice none 0 0, .int .i64 T, .int .i64 C] 33) = w1 at hB h0 h1 h2 hsz ⊢
  obtain ⟨Bi, hBi⟩ : ∃ Bi, w.heap.size = Bi := ⟨_, rfl⟩
  obtain ⟨Br, hBr⟩ : ∃ Br, w.heap.size + 1 = Br := ⟨_, rfl⟩
  obtain ⟨Bo, hBo⟩ : ∃ Bo, w.heap.size + 1 + 1 = Bo := ⟨_, rfl⟩
  rw [hBo] at h2 hsz ⊢
  rw [hBr] at h1 ⊢
  rw [hBi] at h0 ⊢
  have o1 : w.heap.size ≤ Bi := by omega
  have o2 : Bi < Br := by omega
  have o3 : Br < Bo := by omega
  have HB := Lib.hid hB
  have H0 := Lib.hid h0
  have H1 := Lib.hid h1
  have H2 := Lib.hid h2
  have HA := Lib.hid hA
  clear hB h0 h1 h2 hBi hBr hBo hA
  go_loopw [4] (NRel l T C l.length (Bo + 1) w Bi Br Bo (.cells #[.slice A l.length cap, .int .i64 T, .int .i64 C] 24 (0, 0))) (fun i _ => l.length - (intOf i).toNat)
  case atStart => exact ⟨0, by omega, rfl, _, H2.out, H1.out, H0.out, World.ownsRow_nil _ _ _ _, HB.out⟩
  case round =>
    obtain ⟨k, hk, rfl, v, hO, hR, hI, hown, hBe⟩ := hrel
    have x0 : wr.cell? ⟨Bi, 0, none⟩ = some (.slice A l.length cap) := by simp [World.cell?, hI]
    by_cases hlt : k < l.length
    · have hlt' : decide ((k : Int) < (l.length : Int)) = true := by simpa using hlt
      have hAw := HA.out.keep hBe (Nat.le_refl _)
      obtain ⟨b, o, rfl, hAs⟩ := hAw.resolve_left (fun h => by rw [h] at hlt; simp at hlt)
      obtain ⟨ak0, ak1, ak2, ak3⟩ := hAs k hlt
      obtain ⟨a, ha⟩ : ∃ a, l[k] = a := ⟨_, rfl⟩
      rw [ha] at ak0 ak1 ak2 ak3
      have htk : l.take (k + 1) = l.take k ++ [a] := by rw [List.take_succ_eq_append_getElem hlt, ha]
      have HTK := Lib.hid htk
      obtain ⟨Av, capv, rfl⟩ : ∃ Av capv, v = .slice Av k capv := own_slice hown
      have e0 : wr.cell? ⟨Bo, 0, none⟩ = some (.slice Av k capv) := by simp [World.cell?, hO]
      have HO := Lib.hid hO
      have HR := Lib.hid hR
      have HI := Lib.hid hI
      have HOW := Lib.hid hown
      have HBe := Lib.hid hBe
      have i1 : (0 : Int) ≤ (k : Int) := by omega
      have i2 : (k : Int) < (l.length : Int) := by omega
      have lO : Bo < wr.heap.size := (Array.getElem?_eq_some_iff.1 hO).1
      clear hO hR hI hown hBe htk ha hAs hAw H0 H1 H2 HB
      go_wp2_with (at_builtin; refine wpList_append_own _ rfl _ _ 31 rfl (Bo + 1) 104 i0 (.agg #[.int .i64 0, .int .i64 0, .int .i64 0, .int .i64 0]) 4 32 Try.underlying31 hi0 hz0 hz1 hz2 rfl (by decide) _ _ _ rfl ((HOW.out.alloc _).alloc _) ⟨wr.heap.size + 1, 0, none⟩ 1 1 [.int .i64 a.t, .int .i64 a.c, .int .i64 a.r, .int .i64 a.g] rfl rfl ?c1 ?c2 ?c3 ?c4 ?c5 ?_)
      case c1 => exact World.news_of_block (cs := #[.int .i64 a.t, .int .i64 a.c, .int .i64 a.r, .int .i64 a.g]) (t := 104) (fr := (0, 0)) (heap_alloc2 _ _ _)
      case c2 => simp [Value.oneCell']
      case c3 => unfold maxLen; omega
      case c4 => omega
      case c5 => simp; omega
      intro v' w6 hown6 hgrow _
      have hBa : Below wr.heap.size wr ((wr.alloc (.cells #[.int .i64 a.t, .int .i64 a.c, .int .i64 a.r, .int .i64 a.g] 71)).alloc (.cells #[.int .i64 a.t, .int .i64 a.c, .int .i64 a.r, .int .i64 a.g] 104)) := ((Below.refl _ _).alloc (Nat.le_refl _) _).alloc (by simp) _
      have hblk6 : ∀ j, j ≤ Bo → w6.heap[j]? = wr.heap[j]? := fun j hj => (hgrow.block j (by simp; omega) (fun e => by have := HOW.out.lt j e.symm; omega)).trans (hBa.block j (by omega))
      have hB6 : Below w.heap.size w w6 := ⟨hgrow.os.trans HBe.out.os, hgrow.tape.trans HBe.out.tape, hgrow.output.trans HBe.out.output, Nat.le_trans HBe.out.size (Nat.le_trans hBa.size hgrow.size), fun j hj => (hblk6 j (by omega)).trans (HBe.out.block j hj)⟩
      have hO6 := (hblk6 Bo (Nat.le_refl _)).trans HO.out
      have hR6 := (hblk6 Br (by omega)).trans HR.out
      have hI6 := (hblk6 Bi (by omega)).trans HI.out
      have hown7 : w6.ownsRow (Bo + 1) 104 4 v' (k + 1) (flatA (l.take (k + 1))) := by rw [HTK.out, flatA_snoc]; exact hown6
      obtain ⟨A2, cap2, rfl⟩ := own_slice hown7
      have g0 : w6.cell? ⟨Bo, 0, none⟩ = some (.slice Av k capv) := by simp [World.cell?, hO6]
      have g1 : w6.frozen? ⟨Bo, 0, none⟩ = false := by simp [World.frozen?, hO6]
      have HO6 := Lib.hid hO6
      have HR6 := Lib.hid hR6
      have HI6 := Lib.hid hI6
      have HOW7 := Lib.hid hown7
      have HB6 := Lib.hid hB6
      clear hO6 hR6 hI6 hown7 hown6 hB6 hblk6 hBa hgrow HO HR HI HOW HBe e0 x0 ak0 ak1 ak2 ak3
      go_wp2_with fail
      go_roundw
      case rel =>
        have hs7 : ∀ j, j ≠ Bo → (w6.setCell ⟨Bo, 0, none⟩ (.slice A2 (k + 1) cap2)).heap[j]? = w6.heap[j]? := fun j hj => Below.heap_setCell _ _ _ _ hj
        refine ⟨k + 1, by omega, by go_num, .slice A2 (k + 1) cap2, set_one HO6.out _, (hs7 _ (by omega)).trans HR6.out, (hs7 _ (by omega)).trans HI6.out, own_of_blocks HOW7.out (fun g hg => hs7 g (by have := HOW7.out.lt g hg; omega)), HB6.out.setCell (by simp; omega) _⟩
      case measure => simp [intOf]; omega
    · have hlt' : decide ((k : Int) < (l.length : Int)) = false := by simpa using hlt
      obtain rfl : k = l.length := by omega
      rw [List.take_length] at hown
      obtain ⟨A', cap', rfl, hnil, hang⟩ := angs_of_own hown
      have c0 : wr.cell? ⟨Bo, 0, none⟩ = some (.slice A' l.length cap') := by simp [World.cell?, hO]
      have c1 : wr.cell? ⟨Bo, 1, none⟩ = some (.int .i64 T) := by simp [World.cell?, hO]
      have c2 : wr.cell? ⟨Bo, 2, none⟩ = some (.int .i64 C) := by simp [World.cell?, hO]
      have d0 : wr.cell? ⟨Br, 0, none⟩ = some (.slice none 0 0) := by simp [World.cell?, hR]
      have d1 : wr.cell? ⟨Br, 1, none⟩ = some (.int .i64 0) := by simp [World.cell?, hR]
      have d2 : wr.cell? ⟨Br, 2, none⟩ = some (.int .i64 0) := by simp [World.cell?, hR]
      have f0 : wr.frozen? ⟨Br, 0, none⟩ = false := by simp [World.frozen?, hR]
      have f1 : wr.frozen? ⟨Br, 1, none⟩ = false := by simp [World.frozen?, hR]
      have f2 : wr.frozen? ⟨Br, 2, none⟩ = false := by simp [World.frozen?, hR]
      have lR : Br < wr.heap.size := (Array.getElem?_eq_some_iff.1 hR).1
      have HOW := Lib.hid hown
      have HR := Lib.hid hR
      have HANG := Lib.hid hang
      have HBe := Lib.hid hBe
      clear hown hang hBe hR hO hI H0 H1 H2 HB
      go_wp2_with fail
      have hs7 : ∀ j, j ≠ Br → (((wr.setCell ⟨Br, 0, none⟩ (.slice A' l.length cap')).setCell ⟨Br, 1, none⟩ (.int .i64 T)).setCell ⟨Br, 2, none⟩ (.int .i64 C)).heap[j]? = wr.heap[j]? := fun j hj => (Below.heap_setCell _ _ _ _ hj).trans ((Below.heap_setCell _ _ _ _ hj).trans (Below.heap_setCell _ _ _ _ hj))
      have hB7 : Below w.heap.size w (((wr.setCell ⟨Br, 0, none⟩ (.slice A' l.length cap')).setCell ⟨Br, 1, none⟩ (.int .i64 T)).setCell ⟨Br, 2, none⟩ (.int .i64 C)) := ((HBe.out.setCell (by simp; omega) _).setCell (by simp; omega) _).setCell (by simp; omega) _
      have hk7 : (((wr.setCell ⟨Br, 0, none⟩ (.slice A' l.length cap')).setCell ⟨Br, 1, none⟩ (.int .i64 T)).setCell ⟨Br, 2, none⟩ (.int .i64 C)).heap[Br]? = some (.cells #[.slice A' l.length cap', .int .i64 T, .int .i64 C] 33 (0, 0)) := set_three HR.out _ _ _
      have how7 := own_of_blocks HOW.out (fun g hg => hs7 g (by have := HOW.out.lt g hg; omega))
      generalize ((wr.setCell ⟨Br, 0, none⟩ (.slice A' l.length cap')).setCell ⟨Br, 1, none⟩ (.int .i64 T)).setCell ⟨Br, 2, none⟩ (.int .i64 C) = w7 at hs7 hB7 hk7 how7 ⊢
      have hang7 : AngsAt w7 A' l := by
        obtain ⟨A2, cap2, he, _, h⟩ := angs_of_own how7
        obtain ⟨rfl, _⟩ : A' = A2 ∧ cap' = cap2 := by simpa using he
        exact h
      exact bodyPost_ret (v := .agg #[.slice A' l.length cap', .int .i64 T, .int .i64 C]) (by simp [results, Try.results22, go_sem, World.cell?, hk7]) rfl ⟨_, _, rfl, hang7, hnil, hB7⟩
end Go.Proofs.Ytkloaeaepjoijaa

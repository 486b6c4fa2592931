/-
  Plan, Truth: the laws' copies.
-/
import Derived.Test.YtefhdcecbmgljaaRefD
set_option linter.all false
namespace Go.Proofs.Ytefhdcecbmgljaa
open Go.RowKit Go.WalkArith

theorem add_at (b o j : Nat) : (⟨b, o, none⟩ : Addr).add j = ⟨b, o + j, none⟩ := by
  unfold Addr.add
  by_cases h : j = 0
  · subst h; simp
  · simp [h]
theorem cell_block {w w' : World} {p : Addr} (h : w'.heap[p.block]? = w.heap[p.block]?) : w'.cell? p = w.cell? p := by simp [World.cell?, h]
theorem cell_set2 {w : World} {B Bi k i j : Nat} {x y : Value} (_ : True) (h : Bi ≠ B) : ((w.setCell ⟨B, i, none⟩ x).setCell ⟨B, j, none⟩ y).cell? ⟨Bi, k, none⟩ = w.cell? ⟨Bi, k, none⟩ :=
  cell_block ((Below.heap_setCell _ _ _ _ h).trans (Below.heap_setCell _ _ _ _ h))
theorem IntsAt.of_others {W W' : World} {v : Value} {xs : List Int} {Bo t : Nat} {fr : Nat × Nat} {a d : Option Addr} {b c e f : Nat} (h : IntsAt W v xs) (ho : ∀ j, j ≠ Bo → W'.heap[j]? = W.heap[j]?) (hk : W.heap[Bo]? = some (.cells #[.slice a b c, .slice d e f] t fr)) : IntsAt W' v xs := by
  obtain ⟨A, cap, rfl, h2⟩ := h
  refine ⟨A, cap, rfl, ?_⟩
  rcases h2 with h2 | ⟨g, o, rfl, h4⟩
  · exact .inl h2
  · refine .inr ⟨g, o, rfl, fun i hi => ?_⟩
    have hc := h4 i hi
    by_cases e : g = Bo
    · subst e
      exfalso
      simp only [World.cell?, hk] at hc
      obtain h | h | h : o + i = 0 ∨ o + i = 1 ∨ 2 ≤ o + i := by omega
      · rw [h] at hc; simp at hc
      · rw [h] at hc; simp at hc
      · rw [Array.getElem?_eq_none (by simpa using h)] at hc; cases hc
    · rw [cell_block (ho g e)]; exact hc
theorem own_of_blocks {w w' : World} {base e size n : Nat} {v : Value} {xs : List Value} (h : w.ownsRow base e size v n xs) (hb : ∀ g, v.ownBlock = some g → w'.heap[g]? = w.heap[g]?) : w'.ownsRow base e size v n xs := by
  obtain ⟨h1, h2 | ⟨g, cap, cur, rfl, h3, h4, h5⟩⟩ := h
  · exact ⟨h1, .inl h2⟩
  · exact ⟨h1, .inr ⟨g, cap, cur, rfl, h3, (hb g rfl).trans h4, h5⟩⟩
theorem own_slice {w : World} {base e size n : Nat} {v : Value} {xs : List Value} (h : w.ownsRow base e size v n xs) : ∃ A cap, v = .slice A n cap := by
  obtain ⟨_, ⟨rfl, rfl⟩ | ⟨g, cap, cur, rfl, _⟩⟩ := h
  · exact ⟨none, 0, rfl⟩
  · exact ⟨_, cap, rfl⟩
theorem set_two {w : World} {B t : Nat} {x y : Value} {fr : Nat × Nat} (h : w.heap[B]? = some (.cells #[x, y] t fr)) (x' y' : Value) :
    ((w.setCell ⟨B, 0, none⟩ x').setCell ⟨B, 1, none⟩ y').heap[B]? = some (.cells #[x', y'] t fr) := by
  obtain ⟨hlt, hg⟩ := Array.getElem?_eq_some_iff.1 h
  simp [World.setCell, hlt, Array.getElem_modify, hg]
def NilOk (A : Option Addr) (cap : Nat) : Prop := A = none → cap = 0
theorem list_ints (A : Option Addr) (cap : Nat) (xs : List Int) (w : World) (h0 : A = none → cap = 0) (hv : IntsAt w (.slice A xs.length cap) xs) (hn : xs.length ≤ 1000000) :
    Calls Try.prog 34 #[.slice A xs.length cap] w fun e w' => ∃ v, e = .returned v ∧ IntsAt w' v xs ∧ Below w.heap.size w w' :=
  (list_any A cap xs w h0 hv hn).mono fun _ _ ⟨v, h1, h2, h3⟩ => ⟨v, h1, IntsAt.of_own h2, h3⟩

set_option maxRecDepth 100000 in
set_option maxHeartbeats 1000000 in
theorem plan_conv (A B : Option Addr) (cap cap2 : Nat) (ts cs : List Int) (w : World) (h0 : NilOk A cap) (h1 : NilOk B cap2) (ht : IntsAt w (.slice A ts.length cap) ts) (hc : IntsAt w (.slice B cs.length cap2) cs) (hn : ts.length ≤ 1000000) (hm : cs.length ≤ 1000000) :
    Calls Try.prog 21 #[.agg #[.slice A ts.length cap, .slice B cs.length cap2]] w fun e w' => ∃ Au Av cu cv, e = .returned (.agg #[.slice Au ts.length cu, .slice Av cs.length cv]) ∧ IntsAt w' (.slice Au ts.length cu) ts ∧ IntsAt w' (.slice Av cs.length cv) cs ∧ Below w.heap.size w w' := by
  have hB : Below w.heap.size w ((w.alloc (.cells #[.slice A ts.length cap, .slice B cs.length cap2] 29)).alloc (.cells #[.slice none 0 0, .slice none 0 0] 44)) := ((Below.refl _ _).alloc (Nat.le_refl _) _).alloc (by simp) _
  have hn0 : ((w.alloc (.cells #[.slice A ts.length cap, .slice B cs.length cap2] 29)).alloc (.cells #[.slice none 0 0, .slice none 0 0] 44)).heap[w.heap.size]? = some (.cells #[.slice A ts.length cap, .slice B cs.length cap2] 29 (0, 0)) := (Below.heap_alloc _ _ _ (by simp)).trans (heap_new_at _ _ _ rfl)
  have hu0 := heap_alloc2 w (.cells #[.slice A ts.length cap, .slice B cs.length cap2] 29) (.cells #[.slice none 0 0, .slice none 0 0] 44)
  go_enter Try.func21, Try.ntmps21
  go_wp2_with fail
  generalize (w.alloc (.cells #[.slice A ts.length cap, .slice B cs.length cap2] 29)).alloc (.cells #[.slice none 0 0, .slice none 0 0] 44) = w1 at hB hn0 hu0 ⊢
  obtain ⟨Bi, hBi⟩ : ∃ Bi, w.heap.size = Bi := ⟨_, rfl⟩
  obtain ⟨Bo, hBo⟩ : ∃ Bo, w.heap.size + 1 = Bo := ⟨_, rfl⟩
  have o1 : w.heap.size ≤ Bo := by omega
  have o2 : Bi ≠ Bo := by omega
  rw [hBo] at hu0 ⊢
  rw [hBi] at hn0 ⊢
  clear hBi hBo
  have x0 : w1.cell? ⟨Bi, 0, none⟩ = some (.slice A ts.length cap) := by simp [World.cell?, hn0]
  have x1 : w1.cell? ⟨Bi, 1, none⟩ = some (.slice B cs.length cap2) := by simp [World.cell?, hn0]
  have hu0l := (Array.getElem?_eq_some_iff.1 hu0).1
  have h23 := Lib.hid (list_ints A cap ts w1.drew h0 (ht.keep hB.drew (Nat.le_refl _)) hn)
  have HB := Lib.hid hB
  have HU := Lib.hid hu0
  have HC := Lib.hid hc
  clear hB hn0 hu0 ht hc
  refine wp_region_held_drew (S := fun X => X.cell? ⟨Bi, 0, none⟩ = some (.slice A ts.length cap) ∧ X.cell? ⟨Bi, 1, none⟩ = some (.slice B cs.length cap2)) (by kernel_rfl) (⟨x0, x1⟩) (fun hS0 => ?_)
  refine tkH 0 ⟨some 3, .fieldAddr 29 (.tmp 1) 0, 0, "law.go:25", #[], none⟩ (v := ?_) hS0 ?_ ?_
  rotate_left
  · intro X ⟨x0, x1⟩; go_simp; try with_reducible rfl
  simp only [Act.put, List.setIfInBounds_toArray, List.set_cons_zero, List.set_cons_succ, Array.toArray_toList]
  refine tkH 1 ⟨some 4, .load 27 (.tmp 3), 27, "law.go:25", #[⟨0, .data⟩], none⟩ (v := ?_) hS0 ?_ ?_
  rotate_left
  · intro X ⟨x0, x1⟩; go_simp; try with_reducible rfl
  simp only [Act.put, List.setIfInBounds_toArray, List.set_cons_zero, List.set_cons_succ, Array.toArray_toList]
  refine tkH 3 ⟨some 6, .fieldAddr 29 (.tmp 1) 1, 0, "law.go:25", #[], none⟩ (v := ?_) hS0 ?_ ?_
  rotate_left
  · intro X ⟨x0, x1⟩; go_simp; try with_reducible rfl
  simp only [Act.put, List.setIfInBounds_toArray, List.set_cons_zero, List.set_cons_succ, Array.toArray_toList]
  refine tkH 4 ⟨some 7, .load 27 (.tmp 6), 27, "law.go:25", #[⟨3, .data⟩], none⟩ (v := ?_) hS0 ?_ ?_
  rotate_left
  · intro X ⟨x0, x1⟩; go_simp; try with_reducible rfl
  simp only [Act.put, List.setIfInBounds_toArray, List.set_cons_zero, List.set_cons_succ, Array.toArray_toList]
  refine wpAnyH_ready (rs := [2]) (by kernel_rfl) (by simp) (AllReadyH.cons (o := ⟨some 5, .call ⟨.value (.func 34), #[.tmp 4], #[27]⟩, 27, "law.go:25", #[⟨1, .data⟩], none⟩) rfl (fun K hK => ?_) AllReadyH.nil)
  go_simp
  refine h23.out.mono ?_
  rintro e w2 ⟨u, rfl, hu2, hb2⟩
  have y0 := cell_later hb2 x0
  have y1 := cell_later hb2 x1
  have B2 : Below w.heap.size w w2 := HB.out.drew.trans (hb2.mono HB.out.drew.size)
  have HU2 := Lib.hid hu2
  have HB2 := Lib.hid B2
  have hk2 := Lib.hid ((hb2.block Bo hu0l).trans HU.out)
  clear B2 hu2
  go_wp2_with fail
  refine hK.out _ _ (⟨y0, y1⟩) (fun hS1 => ?_)
  clear hS0 hK K
  refine wpAnyH_ready (rs := [5]) (by kernel_rfl) (by simp) (AllReadyH.cons (o := ⟨some 8, .call ⟨.value (.func 34), #[.tmp 7], #[27]⟩, 27, "law.go:25", #[⟨4, .data⟩, ⟨2, .chain⟩], none⟩) rfl (fun K hK => ?_) AllReadyH.nil)
  go_simp
  refine (list_ints B cap2 cs w2 h1 (HC.out.keep HB2.out (Nat.le_refl _)) hm).mono ?_
  rintro e w3 ⟨v, rfl, hv3, hb3⟩
  have z0 := cell_later hb3 y0
  have z1 := cell_later hb3 y1
  have B3 : Below w.heap.size w w3 := HB2.out.trans (hb3.mono HB2.out.size)
  have hu3 := HU2.out.keep hb3 (Nat.le_refl _)
  have hk3 := (hb3.block Bo (Array.getElem?_eq_some_iff.1 hk2.out).1).trans hk2.out
  have hl3 := (Array.getElem?_eq_some_iff.1 hk3).1
  have f0 : w3.frozen? ⟨Bo, 0, none⟩ = false := by simp [World.frozen?, hk3]
  have f1 : w3.frozen? ⟨Bo, 1, none⟩ = false := by simp [World.frozen?, hk3]
  have c0 : w3.cell? ⟨Bo, 0, none⟩ = some (.slice none 0 0) := by simp [World.cell?, hk3]
  have c1 : w3.cell? ⟨Bo, 1, none⟩ = some (.slice none 0 0) := by simp [World.cell?, hk3]
  have HU3 := Lib.hid hu3
  have HV3 := Lib.hid hv3
  obtain ⟨Au, capu, hue, _⟩ := hu3
  obtain ⟨Av, capv, hve, _⟩ := hv3
  have HB3 := Lib.hid B3
  have HK3 := Lib.hid hk3
  clear hb3 B3 hk3
  subst hue hve
  go_wp2_with fail
  refine hK.out _ _ (⟨z0, z1⟩) (fun hS2 => ?_)
  clear hS1 hK K
  refine tkH 6 ⟨some 9, .build 44 #[(0, .tmp 5), (1, .tmp 8)], 44, "law.go:25", #[⟨2, .data⟩, ⟨5, .data⟩], none⟩ (v := ?_) hS2 ?_ ?_
  rotate_left
  · intro X ⟨x0, x1⟩; go_simp; try with_reducible rfl
  simp only [Act.put, List.setIfInBounds_toArray, List.set_cons_zero, List.set_cons_succ, Array.toArray_toList]
  refine wpAnyH_ready (rs := [7]) (by kernel_rfl) (by simp) (AllReadyH.cons (o := ⟨none, .store 44 (.tmp 2) (.tmp 9), 0, "law.go:25", #[⟨6, .data⟩, ⟨5, .chain⟩, ⟨0, .phase⟩, ⟨1, .phase⟩, ⟨2, .phase⟩, ⟨3, .phase⟩, ⟨4, .phase⟩, ⟨5, .phase⟩, ⟨6, .phase⟩], none⟩) rfl (fun K hK => ?_) AllReadyH.nil)
  go_simp
  refine hK.out _ _ (⟨(cell_set2 trivial o2).trans z0, (cell_set2 trivial o2).trans z1⟩) (fun hS3 => ?_)
  clear hS2 hK K
  refine wpAnyH_done (by kernel_rfl) ?_ _
  clear hS3
  have hs4 : ∀ j, j ≠ Bo → ((w3.setCell ⟨Bo, 0, none⟩ (.slice Au ts.length capu)).setCell ⟨Bo, 1, none⟩ (.slice Av cs.length capv)).heap[j]? = w3.heap[j]? := fun j hj => (Below.heap_setCell _ _ _ _ hj).trans (Below.heap_setCell _ _ _ _ hj)
  have hk4 : ((w3.setCell ⟨Bo, 0, none⟩ (.slice Au ts.length capu)).setCell ⟨Bo, 1, none⟩ (.slice Av cs.length capv)).heap[Bo]? = some (.cells #[.slice Au ts.length capu, .slice Av cs.length capv] 44 (0, 0)) := set_two HK3.out _ _
  have hB4 : Below w.heap.size w ((w3.setCell ⟨Bo, 0, none⟩ (.slice Au ts.length capu)).setCell ⟨Bo, 1, none⟩ (.slice Av cs.length capv)) := (HB3.out.setCell (by simp; omega) _).setCell (by simp; omega) _
  generalize (w3.setCell ⟨Bo, 0, none⟩ (.slice Au ts.length capu)).setCell ⟨Bo, 1, none⟩ (.slice Av cs.length capv) = w4 at hs4 hk4 hB4 ⊢
  have hu4 := HU3.out.of_others hs4 HK3.out
  have hv4 := HV3.out.of_others hs4 HK3.out
  have k0 : w4.cell? ⟨Bo, 0, none⟩ = some (.slice Au ts.length capu) := by simp [World.cell?, hk4]
  have k1 : w4.cell? ⟨Bo, 1, none⟩ = some (.slice Av cs.length capv) := by simp [World.cell?, hk4]
  have HU4 := Lib.hid hu4
  have HV4 := Lib.hid hv4
  have HB4 := Lib.hid hB4
  clear hu4 hv4 hB4 hk4 hs4 HU3 HV3 HB3 HK3 z0 z1 y0 y1 x0 x1 c0 c1 f0 f1
  go_wp2_with fail
  exact bodyPost_ret (v := .agg #[.slice Au ts.length capu, .slice Av cs.length capv]) (by simp [results, Try.results21, go_sem, k0, k1]) rfl ⟨_, _, _, _, rfl, HU4.out, HV4.out, HB4.out⟩

set_option maxRecDepth 100000 in
set_option maxHeartbeats 1000000 in
theorem truth_conv (A : Option Addr) (cap : Nat) (t : Int) (bs : List Int) (w : World) (h0 : NilOk A cap) (ht : IntsAt w (.slice A bs.length cap) bs) (hn : bs.length ≤ 1000000) :
    Calls Try.prog 22 #[.agg #[.int .i64 t, .slice A bs.length cap]] w fun e w' => ∃ Au cu, e = .returned (.agg #[.int .i64 t, .slice Au bs.length cu]) ∧ IntsAt w' (.slice Au bs.length cu) bs ∧ Below w.heap.size w w' := by
  have hB : Below w.heap.size w ((w.alloc (.cells #[.int .i64 t, .slice A bs.length cap] 31)).alloc (.cells #[.int .i64 0, .slice none 0 0] 46)) := ((Below.refl _ _).alloc (Nat.le_refl _) _).alloc (by simp) _
  have hn0 : ((w.alloc (.cells #[.int .i64 t, .slice A bs.length cap] 31)).alloc (.cells #[.int .i64 0, .slice none 0 0] 46)).heap[w.heap.size]? = some (.cells #[.int .i64 t, .slice A bs.length cap] 31 (0, 0)) := (Below.heap_alloc _ _ _ (by simp)).trans (heap_new_at _ _ _ rfl)
  have hu0 := heap_alloc2 w (.cells #[.int .i64 t, .slice A bs.length cap] 31) (.cells #[.int .i64 0, .slice none 0 0] 46)
  go_enter Try.func22, Try.ntmps22
  go_wp2_with fail
  generalize (w.alloc (.cells #[.int .i64 t, .slice A bs.length cap] 31)).alloc (.cells #[.int .i64 0, .slice none 0 0] 46) = w1 at hB hn0 hu0 ⊢
  obtain ⟨Bi, hBi⟩ : ∃ Bi, w.heap.size = Bi := ⟨_, rfl⟩
  obtain ⟨Bo, hBo⟩ : ∃ Bo, w.heap.size + 1 = Bo := ⟨_, rfl⟩
  have o1 : w.heap.size ≤ Bo := by omega
  have o2 : Bi ≠ Bo := by omega
  rw [hBo] at hu0 ⊢
  rw [hBi] at hn0 ⊢
  clear hBi hBo
  have x0 : w1.cell? ⟨Bi, 0, none⟩ = some (.int .i64 t) := by simp [World.cell?, hn0]
  have x1 : w1.cell? ⟨Bi, 1, none⟩ = some (.slice A bs.length cap) := by simp [World.cell?, hn0]
  have hu0l := (Array.getElem?_eq_some_iff.1 hu0).1
  have h23 := Lib.hid (list_any A cap bs w1.drew h0 (ht.keep hB.drew (Nat.le_refl _)) hn)
  have HB := Lib.hid hB
  have HU := Lib.hid hu0
  clear hB hn0 hu0 ht
  refine wp_region_held_drew (S := fun X => X.cell? ⟨Bi, 0, none⟩ = some (.int .i64 t) ∧ X.cell? ⟨Bi, 1, none⟩ = some (.slice A bs.length cap)) (by kernel_rfl) (⟨x0, x1⟩) (fun hS0 => ?_)
  refine tkH 0 ⟨some 3, .fieldAddr 31 (.tmp 1) 0, 0, "law.go:27", #[], none⟩ (v := ?_) hS0 ?_ ?_
  rotate_left
  · intro X ⟨x0, x1⟩; go_simp; try with_reducible rfl
  simp only [Act.put, List.setIfInBounds_toArray, List.set_cons_zero, List.set_cons_succ, Array.toArray_toList]
  refine tkH 1 ⟨some 4, .load 3 (.tmp 3), 3, "law.go:27", #[⟨0, .data⟩], none⟩ (v := ?_) hS0 ?_ ?_
  rotate_left
  · intro X ⟨x0, x1⟩; go_simp; try with_reducible rfl
  simp only [Act.put, List.setIfInBounds_toArray, List.set_cons_zero, List.set_cons_succ, Array.toArray_toList]
  refine tkH 2 ⟨some 5, .fieldAddr 31 (.tmp 1) 1, 0, "law.go:27", #[], none⟩ (v := ?_) hS0 ?_ ?_
  rotate_left
  · intro X ⟨x0, x1⟩; go_simp; try with_reducible rfl
  simp only [Act.put, List.setIfInBounds_toArray, List.set_cons_zero, List.set_cons_succ, Array.toArray_toList]
  refine tkH 3 ⟨some 6, .load 27 (.tmp 5), 27, "law.go:27", #[⟨2, .data⟩], none⟩ (v := ?_) hS0 ?_ ?_
  rotate_left
  · intro X ⟨x0, x1⟩; go_simp; try with_reducible rfl
  simp only [Act.put, List.setIfInBounds_toArray, List.set_cons_zero, List.set_cons_succ, Array.toArray_toList]
  refine wpAnyH_ready (rs := [4]) (by kernel_rfl) (by simp) (AllReadyH.cons (o := ⟨some 7, .call ⟨.value (.func 34), #[.tmp 6], #[27]⟩, 27, "law.go:27", #[⟨3, .data⟩], none⟩) rfl (fun K hK => ?_) AllReadyH.nil)
  go_simp
  refine h23.out.mono ?_
  rintro e w2 ⟨v, rfl, hv3, hb2⟩
  have y0 := cell_later hb2 x0
  have y1 := cell_later hb2 x1
  have B2 : Below w.heap.size w w2 := HB.out.drew.trans (hb2.mono HB.out.drew.size)
  have hk2 := (hb2.block Bo hu0l).trans HU.out
  have hl3 := (Array.getElem?_eq_some_iff.1 hk2).1
  have f0 : w2.frozen? ⟨Bo, 0, none⟩ = false := by simp [World.frozen?, hk2]
  have f1 : w2.frozen? ⟨Bo, 1, none⟩ = false := by simp [World.frozen?, hk2]
  have c0 : w2.cell? ⟨Bo, 0, none⟩ = some (.int .i64 0) := by simp [World.cell?, hk2]
  have c1 : w2.cell? ⟨Bo, 1, none⟩ = some (.slice none 0 0) := by simp [World.cell?, hk2]
  have HV3 := Lib.hid hv3
  obtain ⟨Av, capv, hve⟩ := own_slice hv3
  have hlo : Bo < w1.drew.heap.size := hu0l
  clear hv3
  have HB3 := Lib.hid B2
  have HK3 := Lib.hid hk2
  clear hb2 B2 hk2
  subst hve
  go_wp2_with fail
  refine hK.out _ _ (⟨y0, y1⟩) (fun hS1 => ?_)
  clear hS0 hK K
  refine tkH 5 ⟨some 8, .build 46 #[(0, .tmp 4), (1, .tmp 7)], 46, "law.go:27", #[⟨1, .data⟩, ⟨4, .data⟩], none⟩ (v := ?_) hS1 ?_ ?_
  rotate_left
  · intro X ⟨x0, x1⟩; go_simp; try with_reducible rfl
  simp only [Act.put, List.setIfInBounds_toArray, List.set_cons_zero, List.set_cons_succ, Array.toArray_toList]
  refine wpAnyH_ready (rs := [6]) (by kernel_rfl) (by simp) (AllReadyH.cons (o := ⟨none, .store 46 (.tmp 2) (.tmp 8), 0, "law.go:27", #[⟨5, .data⟩, ⟨4, .chain⟩, ⟨0, .phase⟩, ⟨1, .phase⟩, ⟨2, .phase⟩, ⟨3, .phase⟩, ⟨4, .phase⟩, ⟨5, .phase⟩], none⟩) rfl (fun K hK => ?_) AllReadyH.nil)
  go_simp
  refine hK.out _ _ (⟨(cell_set2 trivial o2).trans y0, (cell_set2 trivial o2).trans y1⟩) (fun hS2 => ?_)
  clear hS1 hK K
  refine wpAnyH_done (by kernel_rfl) ?_ _
  clear hS2
  have hs4 : ∀ j, j ≠ Bo → ((w2.setCell ⟨Bo, 0, none⟩ (.int .i64 t)).setCell ⟨Bo, 1, none⟩ (.slice Av bs.length capv)).heap[j]? = w2.heap[j]? := fun j hj => (Below.heap_setCell _ _ _ _ hj).trans (Below.heap_setCell _ _ _ _ hj)
  have hk4 : ((w2.setCell ⟨Bo, 0, none⟩ (.int .i64 t)).setCell ⟨Bo, 1, none⟩ (.slice Av bs.length capv)).heap[Bo]? = some (.cells #[.int .i64 t, .slice Av bs.length capv] 46 (0, 0)) := set_two HK3.out _ _
  have hB4 : Below w.heap.size w ((w2.setCell ⟨Bo, 0, none⟩ (.int .i64 t)).setCell ⟨Bo, 1, none⟩ (.slice Av bs.length capv)) := (HB3.out.setCell (by simp; omega) _).setCell (by simp; omega) _
  generalize (w2.setCell ⟨Bo, 0, none⟩ (.int .i64 t)).setCell ⟨Bo, 1, none⟩ (.slice Av bs.length capv) = w4 at hs4 hk4 hB4 ⊢
  have hv4 : IntsAt w4 (.slice Av bs.length capv) bs := IntsAt.of_own (own_of_blocks HV3.out (fun g hg => hs4 g (by have := HV3.out.lt g hg; omega)))
  have k0 : w4.cell? ⟨Bo, 0, none⟩ = some (.int .i64 t) := by simp [World.cell?, hk4]
  have k1 : w4.cell? ⟨Bo, 1, none⟩ = some (.slice Av bs.length capv) := by simp [World.cell?, hk4]
  have HV4 := Lib.hid hv4
  have HB4 := Lib.hid hB4
  clear hv4 hB4 hk4 hs4 HV3 HB3 HK3 y0 y1 x0 x1 c0 c1 f0 f1
  go_wp2_with fail
  exact bodyPost_ret (v := .agg #[.int .i64 t, .slice Av bs.length capv]) (by simp [results, Try.results22, go_sem, k0, k1]) rfl ⟨_, _, rfl, HV4.out, HB4.out⟩
end Go.Proofs.Ytefhdcecbmgljaa

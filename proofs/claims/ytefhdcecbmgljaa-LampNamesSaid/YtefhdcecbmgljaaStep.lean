/-
  step: the spot after a night with a number.
-/
import Derived.Test.YtefhdcecbmgljaaJob
set_option linter.all false
namespace Go.Proofs.Ytefhdcecbmgljaa
open Go.RowKit Go.WalkArith

set_option maxRecDepth 100000 in
set_option maxHeartbeats 4000000 in
theorem stepD_any (w0 : World) (Bw Bk : Nat) (s : St) (J : Job) (A : Option Addr) (cp Bs Bl : Nat) (hok : StOk s) (hJ : JobS s J) (hF : JobFD w0 s J Bs Bl) (i : Nat) (o n : Int) (W : World) (hi : i < s.ns.length) (ho : 0 ≤ o ∧ o ≤ 400) (hn : J.lo i ≤ n ∧ n ≤ J.hi i) (hE : WkEnvD w0 Bw Bk s A cp Bs Bl W) :
    Calls Try.prog 108 #[.pointer (some ⟨Bw, 0, none⟩), .agg #[.int .i64 i, .int .i64 o], .int .i64 n] W fun e w' => e = .returned (.tuple #[.agg #[.int .i64 ((i : Int) + 1), .int .i64 (nextO s J i n o)], .bool (nextB s J i n o)]) ∧ Below W.heap.size W w' := by
  have hlen := hok.len
  have hb0 : Below W.heap.size W ((W.alloc (.cells #[.int .i64 i, .int .i64 o] 155)).alloc (.cells #[.int .i64 0, .int .i64 0] 155)) := ((Below.refl _ _).alloc (Nat.le_refl _) _).alloc (by simp) _
  have hn0 : ((W.alloc (.cells #[.int .i64 i, .int .i64 o] 155)).alloc (.cells #[.int .i64 0, .int .i64 0] 155)).heap[W.heap.size]? = some (.cells #[.int .i64 i, .int .i64 o] 155 (0, 0)) := (Below.heap_alloc _ _ _ (by simp)).trans (heap_new_at _ _ _ rfl)
  have hn1 : ((W.alloc (.cells #[.int .i64 i, .int .i64 o] 155)).alloc (.cells #[.int .i64 0, .int .i64 0] 155)).heap[W.heap.size + 1]? = some (.cells #[.int .i64 0, .int .i64 0] 155 (0, 0)) := heap_alloc2 _ _ _
  have hE1 := hE.keep hb0
  obtain ⟨hc, hk⟩ := hJ.bd i n hi hn.1 hn.2
  have HF := Lib.hid hF
  have HO := Lib.hid hok
  have HB0 := Lib.hid hb0
  have HE1 := Lib.hid hE1
  have HN0 := Lib.hid hn0
  have HN1 := Lib.hid hn1
  have lw := hE.lt
  have i0 : (0 : Int) ≤ (i : Int) := by omega
  clear hF hok hb0 hE hE1 hn0 hn1 hJ
  go_enter Try.func108, Try.ntmps108
  go_wp2_with fail
  generalize (W.alloc (.cells #[.int .i64 i, .int .i64 o] 155)).alloc (.cells #[.int .i64 0, .int .i64 0] 155) = w1 at HB0 HE1 HN0 HN1 ⊢
  obtain ⟨Br, hBr⟩ : ∃ Br, W.heap.size + 1 = Br := ⟨_, rfl⟩
  obtain ⟨Bt, hBt⟩ : ∃ Bt, W.heap.size = Bt := ⟨_, rfl⟩
  have HB1 : Hid (Below W.heap.size W w1) := HB0
  rw [hBr] at HN1 ⊢
  rw [hBt] at HN0 ⊢
  have wbt : W.heap.size ≤ Bt := by omega
  have wbr : W.heap.size ≤ Br := by omega
  have ltr : Bt < Br := by omega
  clear hBr hBt HB0
  obtain ⟨x0, x1, x2, x3, x4, x5, x6, x7, x8, x9⟩ := HE1.out.cells
  have t0 : w1.cell? ⟨Bt, 0, none⟩ = some (.int .i64 (i : Int)) := by simp [World.cell?, HN0.out]
  have t1 : w1.cell? ⟨Bt, 1, none⟩ = some (.int .i64 o) := by simp [World.cell?, HN0.out]
  clear x5 x6 x7 x9
  refine wp_region_held_drew (S := fun X => X.cell? ⟨Bw, 8, none⟩ = some (.func (.func 81) #[] #[.pointer (some ⟨Bl, 0, none⟩)]) ∧ X.cell? ⟨Bt, 0, none⟩ = some (.int .i64 (i : Int))) (by kernel_rfl) (⟨x8, t0⟩) (fun hS0 => ?_)
  refine tkH 0 ⟨some 13, .move (.tmp 0), 126, "oil.go:138", #[], none⟩ (v := ?_) hS0 ?_ ?_
  rotate_left
  · intro X ⟨x0, x1⟩; go_simp; try with_reducible rfl
  simp only [Act.put, List.setIfInBounds_toArray, List.set_cons_zero, List.set_cons_succ, Array.toArray_toList]
  refine tkH 1 ⟨some 14, .nilCheck (.tmp 13), 0, "oil.go:138", #[⟨0, .data⟩], none⟩ (v := ?_) hS0 ?_ ?_
  rotate_left
  · intro X ⟨x0, x1⟩; go_simp; try with_reducible rfl
  simp only [Act.put, List.setIfInBounds_toArray, List.set_cons_zero, List.set_cons_succ, Array.toArray_toList]
  refine tkH 2 ⟨some 15, .fieldAddr 131 (.tmp 14) 4, 0, "oil.go:138", #[⟨1, .data⟩], none⟩ (v := ?_) hS0 ?_ ?_
  rotate_left
  · intro X ⟨x0, x1⟩; go_simp; try with_reducible rfl
  simp only [Act.put, List.setIfInBounds_toArray, List.set_cons_zero, List.set_cons_succ, Array.toArray_toList]
  refine tkH 3 ⟨some 16, .load 114 (.tmp 15), 114, "oil.go:138", #[⟨2, .data⟩], none⟩ (v := ?_) hS0 ?_ ?_
  rotate_left
  · intro X ⟨x0, x1⟩; go_simp; try with_reducible rfl
  simp only [Act.put, List.setIfInBounds_toArray, List.set_cons_zero, List.set_cons_succ, Array.toArray_toList]
  refine tkH 4 ⟨some 17, .fieldAddr 155 (.tmp 4) 0, 0, "oil.go:138", #[], none⟩ (v := ?_) hS0 ?_ ?_
  rotate_left
  · intro X ⟨x0, x1⟩; go_simp; try with_reducible rfl
  simp only [Act.put, List.setIfInBounds_toArray, List.set_cons_zero, List.set_cons_succ, Array.toArray_toList]
  refine tkH 5 ⟨some 18, .load 3 (.tmp 17), 3, "oil.go:138", #[⟨4, .data⟩], none⟩ (v := ?_) hS0 ?_ ?_
  rotate_left
  · intro X ⟨x0, x1⟩; go_simp; try with_reducible rfl
  simp only [Act.put, List.setIfInBounds_toArray, List.set_cons_zero, List.set_cons_succ, Array.toArray_toList]
  refine tkH 6 ⟨some 19, .move (.tmp 2), 3, "oil.go:138", #[], none⟩ (v := ?_) hS0 ?_ ?_
  rotate_left
  · intro X ⟨x0, x1⟩; go_simp; try with_reducible rfl
  simp only [Act.put, List.setIfInBounds_toArray, List.set_cons_zero, List.set_cons_succ, Array.toArray_toList]
  refine wpAnyH_ready (rs := [7]) (by kernel_rfl) (by simp) (AllReadyH.cons (o := ⟨some 20, .call ⟨.value (.tmp 16), #[.tmp 18, .tmp 19], #[3, 3]⟩, 113, "oil.go:138", #[⟨3, .data⟩, ⟨5, .data⟩, ⟨6, .data⟩], none⟩) rfl (fun K hK => ?_) AllReadyH.nil)
  go_simp
  with_reducible refine (HF.out.does _ HE1.out.drew.old i n hi hn.1 hn.2).mono ?_
  rintro e w2 ⟨rfl, hb2⟩
  have hb2' : Below w1.heap.size w1 w2 := (Below.refl _ w1).drew.trans hb2
  go_wp2_with fail
  refine hK.out _ _ (⟨cell_later hb2' x8, cell_later hb2' t0⟩) (fun hS1 => ?_)
  clear hS0 hK K
  refine tkH 8 ⟨some 12, .move (.tmp 20), 113, "oil.go:138", #[⟨7, .data⟩], none⟩ (v := ?_) hS1 ?_ ?_
  rotate_left
  · intro X ⟨x0, x1⟩; go_simp; try with_reducible rfl
  simp only [Act.put, List.setIfInBounds_toArray, List.set_cons_zero, List.set_cons_succ, Array.toArray_toList]
  refine tkH 9 ⟨some 21, .extract (.tmp 12) 0, 3, "oil.go:138", #[⟨8, .data⟩], none⟩ (v := ?_) hS1 ?_ ?_
  rotate_left
  · intro X ⟨x0, x1⟩; go_simp; try with_reducible rfl
  simp only [Act.put, List.setIfInBounds_toArray, List.set_cons_zero, List.set_cons_succ, Array.toArray_toList]
  refine tkH 10 ⟨some 22, .extract (.tmp 12) 1, 3, "oil.go:138", #[⟨8, .data⟩, { on := 11, ground := Ground.gcOnly Departure.lateStores }], none⟩ (v := ?_) hS1 ?_ ?_
  rotate_left
  · intro X ⟨x0, x1⟩; go_simp; try with_reducible rfl
  simp only [Act.put, List.setIfInBounds_toArray, List.set_cons_zero, List.set_cons_succ, Array.toArray_toList]
  refine tkH 11 ⟨some 8, .assign (.tmp 21), 3, "oil.go:138", #[⟨9, .data⟩, ⟨7, .chain⟩, ⟨0, .phase⟩, ⟨1, .phase⟩, ⟨2, .phase⟩, ⟨3, .phase⟩, ⟨4, .phase⟩, ⟨5, .phase⟩, ⟨6, .phase⟩, ⟨7, .phase⟩, ⟨8, .phase⟩, ⟨9, .phase⟩, ⟨10, .textOnly .lateStores⟩], none⟩ (v := ?_) hS1 ?_ ?_
  rotate_left
  · intro X ⟨x0, x1⟩; go_simp; try with_reducible rfl
  simp only [Act.put, List.setIfInBounds_toArray, List.set_cons_zero, List.set_cons_succ, Array.toArray_toList]
  refine tkH 12 ⟨some 9, .assign (.tmp 22), 3, "oil.go:138", #[⟨10, .data⟩, ⟨11, .chain⟩, ⟨0, .phase⟩, ⟨1, .phase⟩, ⟨2, .phase⟩, ⟨3, .phase⟩, ⟨4, .phase⟩, ⟨5, .phase⟩, ⟨6, .phase⟩, ⟨7, .phase⟩, ⟨8, .phase⟩, ⟨9, .phase⟩, ⟨10, .phase⟩, ⟨11, .phase⟩], none⟩ (v := ?_) hS1 ?_ ?_
  rotate_left
  · intro X ⟨x0, x1⟩; go_simp; try with_reducible rfl
  simp only [Act.put, List.setIfInBounds_toArray, List.set_cons_zero, List.set_cons_succ, Array.toArray_toList]
  refine wpAnyH_done (by kernel_rfl) ?_ _
  clear hS1
  have HE2 := Lib.hid (HE1.out.keep hb2')
  have HB2 := Lib.hid (HB1.out.trans (hb2'.mono HB1.out.size))
  have HN02 := Lib.hid ((hb2'.block _ (Array.getElem?_eq_some_iff.1 HN0.out).1).trans HN0.out)
  have HN12 := Lib.hid ((hb2'.block _ (Array.getElem?_eq_some_iff.1 HN1.out).1).trans HN1.out)
  replace x0 := cell_later hb2' x0
  replace x1 := cell_later hb2' x1
  replace x2 := cell_later hb2' x2
  replace x3 := cell_later hb2' x3
  replace x4 := cell_later hb2' x4
  replace t0 := cell_later hb2' t0
  replace t1 := cell_later hb2' t1
  obtain ⟨C, hC⟩ : ∃ C, J.c i n = C := ⟨_, rfl⟩
  obtain ⟨K', hK'⟩ : ∃ K', J.k i n = K' := ⟨_, rfl⟩
  rw [hC] at hc ⊢
  rw [hK'] at hk ⊢
  have HC := Lib.hid hC
  have HK := Lib.hid hK'
  clear hb2 hb2' x8 HE1 HN0 HN1 hC hK' HB1
  go_wp2_with fail
  refine wp_region_held_drew (S := fun X => X.cell? ⟨Bw, 0, none⟩ = some (.int .i64 s.cap) ∧ X.cell? ⟨Bw, 1, none⟩ = some (.int .i64 s.can) ∧ X.cell? ⟨Bw, 2, none⟩ = some (.int .i64 s.sl) ∧ X.cell? ⟨Bw, 3, none⟩ = some (.int .i64 s.sh) ∧ X.cell? ⟨Bw, 4, none⟩ = some (.slice A s.ns.length cp) ∧ X.cell? ⟨Bt, 0, none⟩ = some (.int .i64 (i : Int)) ∧ X.cell? ⟨Bt, 1, none⟩ = some (.int .i64 o)) (by kernel_rfl) (⟨x0, x1, x2, x3, x4, t0, t1⟩) (fun hS0 => ?_)
  refine tkH 0 ⟨some 24, .move (.tmp 0), 126, "oil.go:139", #[], none⟩ (v := ?_) hS0 ?_ ?_
  rotate_left
  · intro X ⟨x0, x1, x2, x3, x4, x5, x6⟩; go_simp; try with_reducible rfl
  simp only [Act.put, List.setIfInBounds_toArray, List.set_cons_zero, List.set_cons_succ, Array.toArray_toList]
  refine tkH 1 ⟨some 25, .nilCheck (.tmp 24), 0, "oil.go:139", #[⟨0, .data⟩], none⟩ (v := ?_) hS0 ?_ ?_
  rotate_left
  · intro X ⟨x0, x1, x2, x3, x4, x5, x6⟩; go_simp; try with_reducible rfl
  simp only [Act.put, List.setIfInBounds_toArray, List.set_cons_zero, List.set_cons_succ, Array.toArray_toList]
  refine tkH 2 ⟨some 26, .fieldAddr 131 (.tmp 25) 0, 0, "oil.go:139", #[⟨1, .data⟩], none⟩ (v := ?_) hS0 ?_ ?_
  rotate_left
  · intro X ⟨x0, x1, x2, x3, x4, x5, x6⟩; go_simp; try with_reducible rfl
  simp only [Act.put, List.setIfInBounds_toArray, List.set_cons_zero, List.set_cons_succ, Array.toArray_toList]
  refine tkH 3 ⟨some 27, .load 39 (.tmp 26), 39, "oil.go:139", #[⟨2, .data⟩], none⟩ (v := ?_) hS0 ?_ ?_
  rotate_left
  · intro X ⟨x0, x1, x2, x3, x4, x5, x6⟩; go_simp; try with_reducible rfl
  simp only [Act.put, List.setIfInBounds_toArray, List.set_cons_zero, List.set_cons_succ, Array.toArray_toList]
  refine tkH 4 ⟨some 28, .fieldAddr 155 (.tmp 4) 0, 0, "oil.go:139", #[], none⟩ (v := ?_) hS0 ?_ ?_
  rotate_left
  · intro X ⟨x0, x1, x2, x3, x4, x5, x6⟩; go_simp; try with_reducible rfl
  simp only [Act.put, List.setIfInBounds_toArray, List.set_cons_zero, List.set_cons_succ, Array.toArray_toList]
  refine tkH 5 ⟨some 29, .load 3 (.tmp 28), 3, "oil.go:139", #[⟨4, .data⟩], none⟩ (v := ?_) hS0 ?_ ?_
  rotate_left
  · intro X ⟨x0, x1, x2, x3, x4, x5, x6⟩; go_simp; try with_reducible rfl
  simp only [Act.put, List.setIfInBounds_toArray, List.set_cons_zero, List.set_cons_succ, Array.toArray_toList]
  refine tkH 6 ⟨some 30, .fieldAddr 155 (.tmp 4) 1, 0, "oil.go:139", #[], none⟩ (v := ?_) hS0 ?_ ?_
  rotate_left
  · intro X ⟨x0, x1, x2, x3, x4, x5, x6⟩; go_simp; try with_reducible rfl
  simp only [Act.put, List.setIfInBounds_toArray, List.set_cons_zero, List.set_cons_succ, Array.toArray_toList]
  refine tkH 7 ⟨some 31, .load 3 (.tmp 30), 3, "oil.go:139", #[⟨6, .data⟩], none⟩ (v := ?_) hS0 ?_ ?_
  rotate_left
  · intro X ⟨x0, x1, x2, x3, x4, x5, x6⟩; go_simp; try with_reducible rfl
  simp only [Act.put, List.setIfInBounds_toArray, List.set_cons_zero, List.set_cons_succ, Array.toArray_toList]
  refine tkH 8 ⟨some 32, .move (.tmp 8), 3, "oil.go:139", #[], none⟩ (v := ?_) hS0 ?_ ?_
  rotate_left
  · intro X ⟨x0, x1, x2, x3, x4, x5, x6⟩; go_simp; try with_reducible rfl
  simp only [Act.put, List.setIfInBounds_toArray, List.set_cons_zero, List.set_cons_succ, Array.toArray_toList]
  refine tkH 9 ⟨some 33, .move (.tmp 9), 3, "oil.go:139", #[], none⟩ (v := ?_) hS0 ?_ ?_
  rotate_left
  · intro X ⟨x0, x1, x2, x3, x4, x5, x6⟩; go_simp; try with_reducible rfl
  simp only [Act.put, List.setIfInBounds_toArray, List.set_cons_zero, List.set_cons_succ, Array.toArray_toList]
  refine wpAnyH_ready (rs := [10]) (by kernel_rfl) (by simp) (AllReadyH.cons (o := ⟨some 34, .call ⟨.value (.func 112), #[.tmp 27, .tmp 29, .tmp 31, .tmp 32, .tmp 33], #[39, 3, 3, 3, 3]⟩, 115, "oil.go:139", #[⟨3, .data⟩, ⟨5, .data⟩, ⟨7, .data⟩, ⟨8, .data⟩, ⟨9, .data⟩], none⟩) rfl (fun K hK => ?_) AllReadyH.nil)
  go_simp
  with_reducible refine (least_any s A cp i o C K' _ HO.out hi ho hc (by omega) (HE2.out.nts.blocks' HE2.out.drew.old)).mono ?_
  rintro e w3 ⟨rfl, hb3⟩
  have hb3' : Below w2.heap.size w2 w3 := (Below.refl _ w2).drew.trans hb3
  go_wp2_with fail
  refine hK.out _ _ (⟨cell_later hb3' x0, cell_later hb3' x1, cell_later hb3' x2, cell_later hb3' x3, cell_later hb3' x4, cell_later hb3' t0, cell_later hb3' t1⟩) (fun hS1 => ?_)
  clear hS0 hK K
  refine tkH 11 ⟨some 23, .move (.tmp 34), 115, "oil.go:139", #[⟨10, .data⟩], none⟩ (v := ?_) hS1 ?_ ?_
  rotate_left
  · intro X ⟨x0, x1, x2, x3, x4, x5, x6⟩; go_simp; try with_reducible rfl
  simp only [Act.put, List.setIfInBounds_toArray, List.set_cons_zero, List.set_cons_succ, Array.toArray_toList]
  refine tkH 12 ⟨some 35, .extract (.tmp 23) 0, 3, "oil.go:139", #[⟨11, .data⟩], none⟩ (v := ?_) hS1 ?_ ?_
  rotate_left
  · intro X ⟨x0, x1, x2, x3, x4, x5, x6⟩; go_simp; try with_reducible rfl
  simp only [Act.put, List.setIfInBounds_toArray, List.set_cons_zero, List.set_cons_succ, Array.toArray_toList]
  refine tkH 13 ⟨some 36, .extract (.tmp 23) 1, 4, "oil.go:139", #[⟨11, .data⟩, { on := 14, ground := Ground.gcOnly Departure.lateStores }], none⟩ (v := ?_) hS1 ?_ ?_
  rotate_left
  · intro X ⟨x0, x1, x2, x3, x4, x5, x6⟩; go_simp; try with_reducible rfl
  simp only [Act.put, List.setIfInBounds_toArray, List.set_cons_zero, List.set_cons_succ, Array.toArray_toList]
  refine tkH 14 ⟨some 10, .assign (.tmp 35), 3, "oil.go:139", #[⟨12, .data⟩, ⟨10, .chain⟩, ⟨0, .phase⟩, ⟨1, .phase⟩, ⟨2, .phase⟩, ⟨3, .phase⟩, ⟨4, .phase⟩, ⟨5, .phase⟩, ⟨6, .phase⟩, ⟨7, .phase⟩, ⟨8, .phase⟩, ⟨9, .phase⟩, ⟨10, .phase⟩, ⟨11, .phase⟩, ⟨12, .phase⟩, ⟨13, .textOnly .lateStores⟩], none⟩ (v := ?_) hS1 ?_ ?_
  rotate_left
  · intro X ⟨x0, x1, x2, x3, x4, x5, x6⟩; go_simp; try with_reducible rfl
  simp only [Act.put, List.setIfInBounds_toArray, List.set_cons_zero, List.set_cons_succ, Array.toArray_toList]
  refine tkH 15 ⟨some 11, .assign (.tmp 36), 4, "oil.go:139", #[⟨13, .data⟩, ⟨14, .chain⟩, ⟨0, .phase⟩, ⟨1, .phase⟩, ⟨2, .phase⟩, ⟨3, .phase⟩, ⟨4, .phase⟩, ⟨5, .phase⟩, ⟨6, .phase⟩, ⟨7, .phase⟩, ⟨8, .phase⟩, ⟨9, .phase⟩, ⟨10, .phase⟩, ⟨11, .phase⟩, ⟨12, .phase⟩, ⟨13, .phase⟩, ⟨14, .phase⟩], none⟩ (v := ?_) hS1 ?_ ?_
  rotate_left
  · intro X ⟨x0, x1, x2, x3, x4, x5, x6⟩; go_simp; try with_reducible rfl
  simp only [Act.put, List.setIfInBounds_toArray, List.set_cons_zero, List.set_cons_succ, Array.toArray_toList]
  refine wpAnyH_done (by kernel_rfl) ?_ _
  clear hS1
  have HB3 := Lib.hid (HB2.out.trans (hb3'.mono HB2.out.size))
  have hn3 := (hb3'.block _ (Array.getElem?_eq_some_iff.1 HN12.out).1).trans HN12.out
  have HN3 := Lib.hid hn3
  have r0 : w3.cell? ⟨Br, 0, none⟩ = some (.int .i64 0) := by simp [World.cell?, hn3]
  have r1 : w3.cell? ⟨Br, 1, none⟩ = some (.int .i64 0) := by simp [World.cell?, hn3]
  have z0 : w3.frozen? ⟨Br, 0, none⟩ = false := by simp [World.frozen?, hn3]
  have z1 : w3.frozen? ⟨Br, 1, none⟩ = false := by simp [World.frozen?, hn3]
  replace t0 := cell_later hb3' t0
  have hno : leftO s i C K' (ntAt s i).hi o = nextO s J i n o := by unfold nextO; rw [HC.out, HK.out]
  have hnb : litO s i C K' (ntAt s i).hi o = nextB s J i n o := by unfold nextB; rw [HC.out, HK.out]
  rw [hno, hnb]
  obtain ⟨O, hO⟩ : ∃ O, nextO s J i n o = O := ⟨_, rfl⟩
  obtain ⟨T, hT⟩ : ∃ T, nextB s J i n o = T := ⟨_, rfl⟩
  rw [hO, hT]
  have HOO := Lib.hid hO
  have HTT := Lib.hid hT
  clear hn3 hb3 hb3' x0 x1 x2 x3 x4 t1 HE2 HN02 HN12 HB2 hno hnb HC HK hO hT hc hk
  go_wp2_with fail
  have hq : ((w3.setCell ⟨Br, 0, none⟩ (.int .i64 ((i : Int) + 1))).setCell ⟨Br, 1, none⟩ (.int .i64 O)).heap[Br]? = some (.cells #[.int .i64 ((i : Int) + 1), .int .i64 O] 155 (0, 0)) := by simp [World.setCell, Array.getElem?_modify, HN3.out]
  have hbl := (HB3.out.setCell (p := ⟨Br, 0, none⟩) wbr (.int .i64 ((i : Int) + 1))).setCell (p := ⟨Br, 1, none⟩) wbr (.int .i64 O)
  generalize (w3.setCell ⟨Br, 0, none⟩ (.int .i64 ((i : Int) + 1))).setCell ⟨Br, 1, none⟩ (.int .i64 O) = w4 at hq hbl ⊢
  have q0 : w4.cell? ⟨Br, 0, none⟩ = some (.int .i64 ((i : Int) + 1)) := by simp [World.cell?, hq]
  have q1 : w4.cell? ⟨Br, 1, none⟩ = some (.int .i64 O) := by simp [World.cell?, hq]
  exact bodyPost_ret (v := .tuple #[.agg #[.int .i64 ((i : Int) + 1), .int .i64 O], .bool T]) (by simp [results, Try.results108, go_sem, q0, q1]) rfl ⟨by first | rfl | rw [HOO.out, HTT.out], hbl⟩

set_option maxRecDepth 100000 in
set_option maxHeartbeats 4000000 in
theorem stepT_any (w0 : World) (Bw Bk : Nat) (s : St) (J : Job) (A : Option Addr) (cp Bs Bl : Nat) (hok : StOk s) (hJ : JobS s J) (hF : JobFT w0 s J Bs Bl) (i : Nat) (o n : Int) (W : World) (hi : i < s.ns.length) (ho : 0 ≤ o ∧ o ≤ 400) (hn : J.lo i ≤ n ∧ n ≤ J.hi i) (hE : WkEnvT w0 Bw Bk s A cp Bs Bl W) :
    Calls Try.prog 108 #[.pointer (some ⟨Bw, 0, none⟩), .agg #[.int .i64 i, .int .i64 o], .int .i64 n] W fun e w' => e = .returned (.tuple #[.agg #[.int .i64 ((i : Int) + 1), .int .i64 (nextO s J i n o)], .bool (nextB s J i n o)]) ∧ Below W.heap.size W w' := by
  have hlen := hok.len
  have hb0 : Below W.heap.size W ((W.alloc (.cells #[.int .i64 i, .int .i64 o] 155)).alloc (.cells #[.int .i64 0, .int .i64 0] 155)) := ((Below.refl _ _).alloc (Nat.le_refl _) _).alloc (by simp) _
  have hn0 : ((W.alloc (.cells #[.int .i64 i, .int .i64 o] 155)).alloc (.cells #[.int .i64 0, .int .i64 0] 155)).heap[W.heap.size]? = some (.cells #[.int .i64 i, .int .i64 o] 155 (0, 0)) := (Below.heap_alloc _ _ _ (by simp)).trans (heap_new_at _ _ _ rfl)
  have hn1 : ((W.alloc (.cells #[.int .i64 i, .int .i64 o] 155)).alloc (.cells #[.int .i64 0, .int .i64 0] 155)).heap[W.heap.size + 1]? = some (.cells #[.int .i64 0, .int .i64 0] 155 (0, 0)) := heap_alloc2 _ _ _
  have hE1 := hE.keep hb0
  obtain ⟨hc, hk⟩ := hJ.bd i n hi hn.1 hn.2
  have HF := Lib.hid hF
  have HO := Lib.hid hok
  have HB0 := Lib.hid hb0
  have HE1 := Lib.hid hE1
  have HN0 := Lib.hid hn0
  have HN1 := Lib.hid hn1
  have lw := hE.lt
  have i0 : (0 : Int) ≤ (i : Int) := by omega
  clear hF hok hb0 hE hE1 hn0 hn1 hJ
  go_enter Try.func108, Try.ntmps108
  go_wp2_with fail
  generalize (W.alloc (.cells #[.int .i64 i, .int .i64 o] 155)).alloc (.cells #[.int .i64 0, .int .i64 0] 155) = w1 at HB0 HE1 HN0 HN1 ⊢
  obtain ⟨Br, hBr⟩ : ∃ Br, W.heap.size + 1 = Br := ⟨_, rfl⟩
  obtain ⟨Bt, hBt⟩ : ∃ Bt, W.heap.size = Bt := ⟨_, rfl⟩
  have HB1 : Hid (Below W.heap.size W w1) := HB0
  rw [hBr] at HN1 ⊢
  rw [hBt] at HN0 ⊢
  have wbt : W.heap.size ≤ Bt := by omega
  have wbr : W.heap.size ≤ Br := by omega
  have ltr : Bt < Br := by omega
  clear hBr hBt HB0
  obtain ⟨x0, x1, x2, x3, x4, x5, x6, x7, x8, x9⟩ := HE1.out.cells
  have t0 : w1.cell? ⟨Bt, 0, none⟩ = some (.int .i64 (i : Int)) := by simp [World.cell?, HN0.out]
  have t1 : w1.cell? ⟨Bt, 1, none⟩ = some (.int .i64 o) := by simp [World.cell?, HN0.out]
  clear x5 x6 x7 x9
  refine wp_region_held_drew (S := fun X => X.cell? ⟨Bw, 8, none⟩ = some (.func (.func 88) #[] #[.pointer (some ⟨Bl, 0, none⟩)]) ∧ X.cell? ⟨Bt, 0, none⟩ = some (.int .i64 (i : Int))) (by kernel_rfl) (⟨x8, t0⟩) (fun hS0 => ?_)
  refine tkH 0 ⟨some 13, .move (.tmp 0), 126, "oil.go:138", #[], none⟩ (v := ?_) hS0 ?_ ?_
  rotate_left
  · intro X ⟨x0, x1⟩; go_simp; try with_reducible rfl
  simp only [Act.put, List.setIfInBounds_toArray, List.set_cons_zero, List.set_cons_succ, Array.toArray_toList]
  refine tkH 1 ⟨some 14, .nilCheck (.tmp 13), 0, "oil.go:138", #[⟨0, .data⟩], none⟩ (v := ?_) hS0 ?_ ?_
  rotate_left
  · intro X ⟨x0, x1⟩; go_simp; try with_reducible rfl
  simp only [Act.put, List.setIfInBounds_toArray, List.set_cons_zero, List.set_cons_succ, Array.toArray_toList]
  refine tkH 2 ⟨some 15, .fieldAddr 131 (.tmp 14) 4, 0, "oil.go:138", #[⟨1, .data⟩], none⟩ (v := ?_) hS0 ?_ ?_
  rotate_left
  · intro X ⟨x0, x1⟩; go_simp; try with_reducible rfl
  simp only [Act.put, List.setIfInBounds_toArray, List.set_cons_zero, List.set_cons_succ, Array.toArray_toList]
  refine tkH 3 ⟨some 16, .load 114 (.tmp 15), 114, "oil.go:138", #[⟨2, .data⟩], none⟩ (v := ?_) hS0 ?_ ?_
  rotate_left
  · intro X ⟨x0, x1⟩; go_simp; try with_reducible rfl
  simp only [Act.put, List.setIfInBounds_toArray, List.set_cons_zero, List.set_cons_succ, Array.toArray_toList]
  refine tkH 4 ⟨some 17, .fieldAddr 155 (.tmp 4) 0, 0, "oil.go:138", #[], none⟩ (v := ?_) hS0 ?_ ?_
  rotate_left
  · intro X ⟨x0, x1⟩; go_simp; try with_reducible rfl
  simp only [Act.put, List.setIfInBounds_toArray, List.set_cons_zero, List.set_cons_succ, Array.toArray_toList]
  refine tkH 5 ⟨some 18, .load 3 (.tmp 17), 3, "oil.go:138", #[⟨4, .data⟩], none⟩ (v := ?_) hS0 ?_ ?_
  rotate_left
  · intro X ⟨x0, x1⟩; go_simp; try with_reducible rfl
  simp only [Act.put, List.setIfInBounds_toArray, List.set_cons_zero, List.set_cons_succ, Array.toArray_toList]
  refine tkH 6 ⟨some 19, .move (.tmp 2), 3, "oil.go:138", #[], none⟩ (v := ?_) hS0 ?_ ?_
  rotate_left
  · intro X ⟨x0, x1⟩; go_simp; try with_reducible rfl
  simp only [Act.put, List.setIfInBounds_toArray, List.set_cons_zero, List.set_cons_succ, Array.toArray_toList]
  refine wpAnyH_ready (rs := [7]) (by kernel_rfl) (by simp) (AllReadyH.cons (o := ⟨some 20, .call ⟨.value (.tmp 16), #[.tmp 18, .tmp 19], #[3, 3]⟩, 113, "oil.go:138", #[⟨3, .data⟩, ⟨5, .data⟩, ⟨6, .data⟩], none⟩) rfl (fun K hK => ?_) AllReadyH.nil)
  go_simp
  with_reducible refine (HF.out.does _ HE1.out.drew.old i n hi hn.1 hn.2).mono ?_
  rintro e w2 ⟨rfl, hb2⟩
  have hb2' : Below w1.heap.size w1 w2 := (Below.refl _ w1).drew.trans hb2
  go_wp2_with fail
  refine hK.out _ _ (⟨cell_later hb2' x8, cell_later hb2' t0⟩) (fun hS1 => ?_)
  clear hS0 hK K
  refine tkH 8 ⟨some 12, .move (.tmp 20), 113, "oil.go:138", #[⟨7, .data⟩], none⟩ (v := ?_) hS1 ?_ ?_
  rotate_left
  · intro X ⟨x0, x1⟩; go_simp; try with_reducible rfl
  simp only [Act.put, List.setIfInBounds_toArray, List.set_cons_zero, List.set_cons_succ, Array.toArray_toList]
  refine tkH 9 ⟨some 21, .extract (.tmp 12) 0, 3, "oil.go:138", #[⟨8, .data⟩], none⟩ (v := ?_) hS1 ?_ ?_
  rotate_left
  · intro X ⟨x0, x1⟩; go_simp; try with_reducible rfl
  simp only [Act.put, List.setIfInBounds_toArray, List.set_cons_zero, List.set_cons_succ, Array.toArray_toList]
  refine tkH 10 ⟨some 22, .extract (.tmp 12) 1, 3, "oil.go:138", #[⟨8, .data⟩, { on := 11, ground := Ground.gcOnly Departure.lateStores }], none⟩ (v := ?_) hS1 ?_ ?_
  rotate_left
  · intro X ⟨x0, x1⟩; go_simp; try with_reducible rfl
  simp only [Act.put, List.setIfInBounds_toArray, List.set_cons_zero, List.set_cons_succ, Array.toArray_toList]
  refine tkH 11 ⟨some 8, .assign (.tmp 21), 3, "oil.go:138", #[⟨9, .data⟩, ⟨7, .chain⟩, ⟨0, .phase⟩, ⟨1, .phase⟩, ⟨2, .phase⟩, ⟨3, .phase⟩, ⟨4, .phase⟩, ⟨5, .phase⟩, ⟨6, .phase⟩, ⟨7, .phase⟩, ⟨8, .phase⟩, ⟨9, .phase⟩, ⟨10, .textOnly .lateStores⟩], none⟩ (v := ?_) hS1 ?_ ?_
  rotate_left
  · intro X ⟨x0, x1⟩; go_simp; try with_reducible rfl
  simp only [Act.put, List.setIfInBounds_toArray, List.set_cons_zero, List.set_cons_succ, Array.toArray_toList]
  refine tkH 12 ⟨some 9, .assign (.tmp 22), 3, "oil.go:138", #[⟨10, .data⟩, ⟨11, .chain⟩, ⟨0, .phase⟩, ⟨1, .phase⟩, ⟨2, .phase⟩, ⟨3, .phase⟩, ⟨4, .phase⟩, ⟨5, .phase⟩, ⟨6, .phase⟩, ⟨7, .phase⟩, ⟨8, .phase⟩, ⟨9, .phase⟩, ⟨10, .phase⟩, ⟨11, .phase⟩], none⟩ (v := ?_) hS1 ?_ ?_
  rotate_left
  · intro X ⟨x0, x1⟩; go_simp; try with_reducible rfl
  simp only [Act.put, List.setIfInBounds_toArray, List.set_cons_zero, List.set_cons_succ, Array.toArray_toList]
  refine wpAnyH_done (by kernel_rfl) ?_ _
  clear hS1
  have HE2 := Lib.hid (HE1.out.keep hb2')
  have HB2 := Lib.hid (HB1.out.trans (hb2'.mono HB1.out.size))
  have HN02 := Lib.hid ((hb2'.block _ (Array.getElem?_eq_some_iff.1 HN0.out).1).trans HN0.out)
  have HN12 := Lib.hid ((hb2'.block _ (Array.getElem?_eq_some_iff.1 HN1.out).1).trans HN1.out)
  replace x0 := cell_later hb2' x0
  replace x1 := cell_later hb2' x1
  replace x2 := cell_later hb2' x2
  replace x3 := cell_later hb2' x3
  replace x4 := cell_later hb2' x4
  replace t0 := cell_later hb2' t0
  replace t1 := cell_later hb2' t1
  obtain ⟨C, hC⟩ : ∃ C, J.c i n = C := ⟨_, rfl⟩
  obtain ⟨K', hK'⟩ : ∃ K', J.k i n = K' := ⟨_, rfl⟩
  rw [hC] at hc ⊢
  rw [hK'] at hk ⊢
  have HC := Lib.hid hC
  have HK := Lib.hid hK'
  clear hb2 hb2' x8 HE1 HN0 HN1 hC hK' HB1
  go_wp2_with fail
  refine wp_region_held_drew (S := fun X => X.cell? ⟨Bw, 0, none⟩ = some (.int .i64 s.cap) ∧ X.cell? ⟨Bw, 1, none⟩ = some (.int .i64 s.can) ∧ X.cell? ⟨Bw, 2, none⟩ = some (.int .i64 s.sl) ∧ X.cell? ⟨Bw, 3, none⟩ = some (.int .i64 s.sh) ∧ X.cell? ⟨Bw, 4, none⟩ = some (.slice A s.ns.length cp) ∧ X.cell? ⟨Bt, 0, none⟩ = some (.int .i64 (i : Int)) ∧ X.cell? ⟨Bt, 1, none⟩ = some (.int .i64 o)) (by kernel_rfl) (⟨x0, x1, x2, x3, x4, t0, t1⟩) (fun hS0 => ?_)
  refine tkH 0 ⟨some 24, .move (.tmp 0), 126, "oil.go:139", #[], none⟩ (v := ?_) hS0 ?_ ?_
  rotate_left
  · intro X ⟨x0, x1, x2, x3, x4, x5, x6⟩; go_simp; try with_reducible rfl
  simp only [Act.put, List.setIfInBounds_toArray, List.set_cons_zero, List.set_cons_succ, Array.toArray_toList]
  refine tkH 1 ⟨some 25, .nilCheck (.tmp 24), 0, "oil.go:139", #[⟨0, .data⟩], none⟩ (v := ?_) hS0 ?_ ?_
  rotate_left
  · intro X ⟨x0, x1, x2, x3, x4, x5, x6⟩; go_simp; try with_reducible rfl
  simp only [Act.put, List.setIfInBounds_toArray, List.set_cons_zero, List.set_cons_succ, Array.toArray_toList]
  refine tkH 2 ⟨some 26, .fieldAddr 131 (.tmp 25) 0, 0, "oil.go:139", #[⟨1, .data⟩], none⟩ (v := ?_) hS0 ?_ ?_
  rotate_left
  · intro X ⟨x0, x1, x2, x3, x4, x5, x6⟩; go_simp; try with_reducible rfl
  simp only [Act.put, List.setIfInBounds_toArray, List.set_cons_zero, List.set_cons_succ, Array.toArray_toList]
  refine tkH 3 ⟨some 27, .load 39 (.tmp 26), 39, "oil.go:139", #[⟨2, .data⟩], none⟩ (v := ?_) hS0 ?_ ?_
  rotate_left
  · intro X ⟨x0, x1, x2, x3, x4, x5, x6⟩; go_simp; try with_reducible rfl
  simp only [Act.put, List.setIfInBounds_toArray, List.set_cons_zero, List.set_cons_succ, Array.toArray_toList]
  refine tkH 4 ⟨some 28, .fieldAddr 155 (.tmp 4) 0, 0, "oil.go:139", #[], none⟩ (v := ?_) hS0 ?_ ?_
  rotate_left
  · intro X ⟨x0, x1, x2, x3, x4, x5, x6⟩; go_simp; try with_reducible rfl
  simp only [Act.put, List.setIfInBounds_toArray, List.set_cons_zero, List.set_cons_succ, Array.toArray_toList]
  refine tkH 5 ⟨some 29, .load 3 (.tmp 28), 3, "oil.go:139", #[⟨4, .data⟩], none⟩ (v := ?_) hS0 ?_ ?_
  rotate_left
  · intro X ⟨x0, x1, x2, x3, x4, x5, x6⟩; go_simp; try with_reducible rfl
  simp only [Act.put, List.setIfInBounds_toArray, List.set_cons_zero, List.set_cons_succ, Array.toArray_toList]
  refine tkH 6 ⟨some 30, .fieldAddr 155 (.tmp 4) 1, 0, "oil.go:139", #[], none⟩ (v := ?_) hS0 ?_ ?_
  rotate_left
  · intro X ⟨x0, x1, x2, x3, x4, x5, x6⟩; go_simp; try with_reducible rfl
  simp only [Act.put, List.setIfInBounds_toArray, List.set_cons_zero, List.set_cons_succ, Array.toArray_toList]
  refine tkH 7 ⟨some 31, .load 3 (.tmp 30), 3, "oil.go:139", #[⟨6, .data⟩], none⟩ (v := ?_) hS0 ?_ ?_
  rotate_left
  · intro X ⟨x0, x1, x2, x3, x4, x5, x6⟩; go_simp; try with_reducible rfl
  simp only [Act.put, List.setIfInBounds_toArray, List.set_cons_zero, List.set_cons_succ, Array.toArray_toList]
  refine tkH 8 ⟨some 32, .move (.tmp 8), 3, "oil.go:139", #[], none⟩ (v := ?_) hS0 ?_ ?_
  rotate_left
  · intro X ⟨x0, x1, x2, x3, x4, x5, x6⟩; go_simp; try with_reducible rfl
  simp only [Act.put, List.setIfInBounds_toArray, List.set_cons_zero, List.set_cons_succ, Array.toArray_toList]
  refine tkH 9 ⟨some 33, .move (.tmp 9), 3, "oil.go:139", #[], none⟩ (v := ?_) hS0 ?_ ?_
  rotate_left
  · intro X ⟨x0, x1, x2, x3, x4, x5, x6⟩; go_simp; try with_reducible rfl
  simp only [Act.put, List.setIfInBounds_toArray, List.set_cons_zero, List.set_cons_succ, Array.toArray_toList]
  refine wpAnyH_ready (rs := [10]) (by kernel_rfl) (by simp) (AllReadyH.cons (o := ⟨some 34, .call ⟨.value (.func 112), #[.tmp 27, .tmp 29, .tmp 31, .tmp 32, .tmp 33], #[39, 3, 3, 3, 3]⟩, 115, "oil.go:139", #[⟨3, .data⟩, ⟨5, .data⟩, ⟨7, .data⟩, ⟨8, .data⟩, ⟨9, .data⟩], none⟩) rfl (fun K hK => ?_) AllReadyH.nil)
  go_simp
  with_reducible refine (least_any s A cp i o C K' _ HO.out hi ho hc (by omega) (HE2.out.nts.blocks' HE2.out.drew.old)).mono ?_
  rintro e w3 ⟨rfl, hb3⟩
  have hb3' : Below w2.heap.size w2 w3 := (Below.refl _ w2).drew.trans hb3
  go_wp2_with fail
  refine hK.out _ _ (⟨cell_later hb3' x0, cell_later hb3' x1, cell_later hb3' x2, cell_later hb3' x3, cell_later hb3' x4, cell_later hb3' t0, cell_later hb3' t1⟩) (fun hS1 => ?_)
  clear hS0 hK K
  refine tkH 11 ⟨some 23, .move (.tmp 34), 115, "oil.go:139", #[⟨10, .data⟩], none⟩ (v := ?_) hS1 ?_ ?_
  rotate_left
  · intro X ⟨x0, x1, x2, x3, x4, x5, x6⟩; go_simp; try with_reducible rfl
  simp only [Act.put, List.setIfInBounds_toArray, List.set_cons_zero, List.set_cons_succ, Array.toArray_toList]
  refine tkH 12 ⟨some 35, .extract (.tmp 23) 0, 3, "oil.go:139", #[⟨11, .data⟩], none⟩ (v := ?_) hS1 ?_ ?_
  rotate_left
  · intro X ⟨x0, x1, x2, x3, x4, x5, x6⟩; go_simp; try with_reducible rfl
  simp only [Act.put, List.setIfInBounds_toArray, List.set_cons_zero, List.set_cons_succ, Array.toArray_toList]
  refine tkH 13 ⟨some 36, .extract (.tmp 23) 1, 4, "oil.go:139", #[⟨11, .data⟩, { on := 14, ground := Ground.gcOnly Departure.lateStores }], none⟩ (v := ?_) hS1 ?_ ?_
  rotate_left
  · intro X ⟨x0, x1, x2, x3, x4, x5, x6⟩; go_simp; try with_reducible rfl
  simp only [Act.put, List.setIfInBounds_toArray, List.set_cons_zero, List.set_cons_succ, Array.toArray_toList]
  refine tkH 14 ⟨some 10, .assign (.tmp 35), 3, "oil.go:139", #[⟨12, .data⟩, ⟨10, .chain⟩, ⟨0, .phase⟩, ⟨1, .phase⟩, ⟨2, .phase⟩, ⟨3, .phase⟩, ⟨4, .phase⟩, ⟨5, .phase⟩, ⟨6, .phase⟩, ⟨7, .phase⟩, ⟨8, .phase⟩, ⟨9, .phase⟩, ⟨10, .phase⟩, ⟨11, .phase⟩, ⟨12, .phase⟩, ⟨13, .textOnly .lateStores⟩], none⟩ (v := ?_) hS1 ?_ ?_
  rotate_left
  · intro X ⟨x0, x1, x2, x3, x4, x5, x6⟩; go_simp; try with_reducible rfl
  simp only [Act.put, List.setIfInBounds_toArray, List.set_cons_zero, List.set_cons_succ, Array.toArray_toList]
  refine tkH 15 ⟨some 11, .assign (.tmp 36), 4, "oil.go:139", #[⟨13, .data⟩, ⟨14, .chain⟩, ⟨0, .phase⟩, ⟨1, .phase⟩, ⟨2, .phase⟩, ⟨3, .phase⟩, ⟨4, .phase⟩, ⟨5, .phase⟩, ⟨6, .phase⟩, ⟨7, .phase⟩, ⟨8, .phase⟩, ⟨9, .phase⟩, ⟨10, .phase⟩, ⟨11, .phase⟩, ⟨12, .phase⟩, ⟨13, .phase⟩, ⟨14, .phase⟩], none⟩ (v := ?_) hS1 ?_ ?_
  rotate_left
  · intro X ⟨x0, x1, x2, x3, x4, x5, x6⟩; go_simp; try with_reducible rfl
  simp only [Act.put, List.setIfInBounds_toArray, List.set_cons_zero, List.set_cons_succ, Array.toArray_toList]
  refine wpAnyH_done (by kernel_rfl) ?_ _
  clear hS1
  have HB3 := Lib.hid (HB2.out.trans (hb3'.mono HB2.out.size))
  have hn3 := (hb3'.block _ (Array.getElem?_eq_some_iff.1 HN12.out).1).trans HN12.out
  have HN3 := Lib.hid hn3
  have r0 : w3.cell? ⟨Br, 0, none⟩ = some (.int .i64 0) := by simp [World.cell?, hn3]
  have r1 : w3.cell? ⟨Br, 1, none⟩ = some (.int .i64 0) := by simp [World.cell?, hn3]
  have z0 : w3.frozen? ⟨Br, 0, none⟩ = false := by simp [World.frozen?, hn3]
  have z1 : w3.frozen? ⟨Br, 1, none⟩ = false := by simp [World.frozen?, hn3]
  replace t0 := cell_later hb3' t0
  have hno : leftO s i C K' (ntAt s i).hi o = nextO s J i n o := by unfold nextO; rw [HC.out, HK.out]
  have hnb : litO s i C K' (ntAt s i).hi o = nextB s J i n o := by unfold nextB; rw [HC.out, HK.out]
  rw [hno, hnb]
  obtain ⟨O, hO⟩ : ∃ O, nextO s J i n o = O := ⟨_, rfl⟩
  obtain ⟨T, hT⟩ : ∃ T, nextB s J i n o = T := ⟨_, rfl⟩
  rw [hO, hT]
  have HOO := Lib.hid hO
  have HTT := Lib.hid hT
  clear hn3 hb3 hb3' x0 x1 x2 x3 x4 t1 HE2 HN02 HN12 HB2 hno hnb HC HK hO hT hc hk
  go_wp2_with fail
  have hq : ((w3.setCell ⟨Br, 0, none⟩ (.int .i64 ((i : Int) + 1))).setCell ⟨Br, 1, none⟩ (.int .i64 O)).heap[Br]? = some (.cells #[.int .i64 ((i : Int) + 1), .int .i64 O] 155 (0, 0)) := by simp [World.setCell, Array.getElem?_modify, HN3.out]
  have hbl := (HB3.out.setCell (p := ⟨Br, 0, none⟩) wbr (.int .i64 ((i : Int) + 1))).setCell (p := ⟨Br, 1, none⟩) wbr (.int .i64 O)
  generalize (w3.setCell ⟨Br, 0, none⟩ (.int .i64 ((i : Int) + 1))).setCell ⟨Br, 1, none⟩ (.int .i64 O) = w4 at hq hbl ⊢
  have q0 : w4.cell? ⟨Br, 0, none⟩ = some (.int .i64 ((i : Int) + 1)) := by simp [World.cell?, hq]
  have q1 : w4.cell? ⟨Br, 1, none⟩ = some (.int .i64 O) := by simp [World.cell?, hq]
  exact bodyPost_ret (v := .tuple #[.agg #[.int .i64 ((i : Int) + 1), .int .i64 O], .bool T]) (by simp [results, Try.results108, go_sem, q0, q1]) rfl ⟨by first | rfl | rw [HOO.out, HTT.out], hbl⟩
end Go.Proofs.Ytefhdcecbmgljaa

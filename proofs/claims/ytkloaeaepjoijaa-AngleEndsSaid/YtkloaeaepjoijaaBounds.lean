/-
  bounds.
-/
import Derived.Test.YtkloaeaepjoijaaReach
import Derived.Deep.MidRow
set_option linter.all false
namespace Go.Proofs.Ytkloaeaepjoijaa
open Go.RowKit Go.WalkArith

/-- If no cut denies there is a truth: the program itself finds it. -/
theorem truth_exists (b o n cap : Nat) (T C : Int) (l : List Ang) (rs : Array Value) (lo hi : Int → Int) (w : World) (hl : l.length = n) (hok : NetOk l T C) (hA : AngsAt w (some ⟨b, o, none⟩) l) (hrs : RoomsV rs lo hi) (hro : RoomsOk n lo hi) (hc : canB l T C lo hi = true) :
    ∃ x, TruthN l.length T C (frL l) (toL l) lo hi x := by
  obtain ⟨e, w', fr, ⟨_, ⟨_, m, hm, hd⟩ | ⟨v, x, _, _, ht⟩⟩, _⟩ := truth_any b o n cap T C l rs lo hi w hl hok hA hrs hro []
  · have : canB l T C lo hi = false := canB_of_denied hok hm (by rw [hl]; exact hd)
    rw [hc] at this; cases this
  · exact ⟨x, by rw [hl]; exact ht⟩

theorem point_of_truth {l : List Ang} {T C : Int} {lo hi : Int → Int} (hok : NetOk l T C) {x : Int → Int} (h : TruthN l.length T C (frL l) (toL l) lo hi x) {i : Nat} (hi' : i < l.length) : lo i ≤ x i ∧ x i ≤ hi i ∧ pointB l T C lo hi i (x i) = true := by
  refine ⟨(h.1 i hi').1, (h.1 i hi').2, canB_of_truth hok (x := x) ⟨fun j hj => ?_, h.2⟩⟩
  have := h.1 j hj
  unfold updG
  by_cases e : (j : Int) = i
  · rw [if_pos e, if_pos e, e]; omega
  · rw [if_neg e, if_neg e]; exact this

def BoundsPost (l : List Ang) (T C : Int) (lo hi : Int → Int) (i : Nat) (w : World) (e : Ending) (w' : World) : Prop :=
  ∃ r1 r2, e = .returned (.agg #[.int .i64 r1, .int .i64 r2]) ∧ IsLow (pointB l T C lo hi i) (lo i) (hi i) r1 ∧ IsHigh (pointB l T C lo hi i) (lo i) (hi i) r2 ∧ Below w.heap.size w w'

set_option maxRecDepth 100000 in
set_option maxHeartbeats 4000000 in
theorem bounds_any (b o n cap i : Nat) (T C : Int) (l : List Ang) (rs : Array Value) (lo hi : Int → Int) (w : World) (hl : l.length = n) (hok : NetOk l T C) (hA : AngsAt w (some ⟨b, o, none⟩) l) (hrs : RoomsV rs lo hi) (hro : RoomsOk n lo hi) (hi' : i < n) (hc : canB l T C lo hi = true) :
    Calls Try.prog 79 #[.agg #[.slice (some ⟨b, o, none⟩) n cap, .int .i64 T, .int .i64 C], .agg rs, .int .i64 i] w (BoundsPost l T C lo hi i w) := by
  have hex : ∃ x, lo i ≤ x ∧ x ≤ hi i ∧ pointB l T C lo hi i x = true := by
    obtain ⟨x, hx⟩ := truth_exists b o n cap T C l rs lo hi w hl hok hA hrs hro hc
    exact ⟨x i, point_of_truth hok hx (by omega)⟩
  have HL := Lib.hid hl
  have HO := Lib.hid hok
  have HA := Lib.hid hA
  have HR := Lib.hid hrs
  have HRO := Lib.hid hro
  have HEX := Lib.hid hex
  have hn12 : n ≤ 12 := by rw [← hl]; exact hok.len
  clear hl hok hA hrs hro hex hc
  obtain ⟨W1, hW1⟩ : ∃ W1, ((((w.alloc (.cells #[.slice (some ⟨b, o, none⟩) n cap, .int .i64 T, .int .i64 C] 33)).alloc (.cells rs 109)).alloc (.cells #[.int .i64 0, .int .i64 0] 58)).alloc (.cells #[.func (.func 102) #[] #[], .int .i64 1] 149)).alloc (.cells #[.func (.func 103) #[] #[], .int .i64 (-1)] 149) = W1 := ⟨_, rfl⟩
  have hB0 : Below w.heap.size w W1 := by rw [← hW1]; exact (((((Below.refl _ _).alloc (Nat.le_refl _) _).alloc (by simp) _).alloc (by simp; omega) _).alloc (by simp; omega) _).alloc (by simp; omega) _
  have e0 : W1.heap[w.heap.size]? = some (.cells #[.slice (some ⟨b, o, none⟩) n cap, .int .i64 T, .int .i64 C] 33 (0, 0)) := by
    rw [← hW1, Below.heap_alloc _ _ _ (by simp; try omega), Below.heap_alloc _ _ _ (by simp; try omega), Below.heap_alloc _ _ _ (by simp; try omega), Below.heap_alloc _ _ _ (by simp; try omega)]; exact heap_new_at _ _ _ rfl
  have e1 : W1.heap[w.heap.size + 1]? = some (.cells rs 109 (0, 0)) := by
    rw [← hW1, Below.heap_alloc _ _ _ (by simp; try omega), Below.heap_alloc _ _ _ (by simp; try omega), Below.heap_alloc _ _ _ (by simp; try omega)]; exact heap_new_at _ _ _ (by simp)
  have e2 : W1.heap[w.heap.size + 1 + 1]? = some (.cells #[.int .i64 0, .int .i64 0] 58 (0, 0)) := by
    rw [← hW1, Below.heap_alloc _ _ _ (by simp; try omega), Below.heap_alloc _ _ _ (by simp; try omega)]; exact heap_new_at _ _ _ (by simp)
  have e3 : W1.heap[w.heap.size + 1 + 1 + 1]? = some (.cells #[.func (.func 102) #[] #[], .int .i64 1] 149 (0, 0)) := by
    rw [← hW1, Below.heap_alloc _ _ _ (by simp; try omega)]; exact heap_new_at _ _ _ (by simp)
  have e4 : W1.heap[w.heap.size + 1 + 1 + 1 + 1]? = some (.cells #[.func (.func 103) #[] #[], .int .i64 (-1)] 149 (0, 0)) := by
    rw [← hW1]; exact heap_new_at _ _ _ (by simp)
  have HW1 := Lib.hid hW1
  have H0 := Lib.hid e0
  have H1 := Lib.hid e1
  have H2 := Lib.hid e2
  have H3 := Lib.hid e3
  have H4 := Lib.hid e4
  have HB0 := Lib.hid hB0
  clear hW1 e0 e1 e2 e3 e4 hB0
  go_enter Try.func79, Try.ntmps79
  go_wp2_with fail
  rw [HW1.out]
  clear HW1
  obtain ⟨B4, hB4⟩ : ∃ B4, w.heap.size + 1 + 1 + 1 + 1 = B4 := ⟨_, rfl⟩
  obtain ⟨B3, hB3⟩ : ∃ B3, w.heap.size + 1 + 1 + 1 = B3 := ⟨_, rfl⟩
  obtain ⟨B2, hB2⟩ : ∃ B2, w.heap.size + 1 + 1 = B2 := ⟨_, rfl⟩
  obtain ⟨B1, hB1⟩ : ∃ B1, w.heap.size + 1 = B1 := ⟨_, rfl⟩
  obtain ⟨B0, hB0⟩ : ∃ B0, w.heap.size = B0 := ⟨_, rfl⟩
  have ord : w.heap.size ≤ B0 ∧ B0 < B1 ∧ B1 < B2 ∧ B2 < B3 ∧ B3 < B4 := by omega
  rw [hB4] at H4 ⊢
  rw [hB3] at H3 ⊢
  rw [hB2] at H2 ⊢
  rw [hB1] at H1 ⊢
  rw [hB0] at H0 ⊢
  clear hB4 hB3 hB2 hB1 hB0
  have l4 := (Array.getElem?_eq_some_iff.1 H4.out).1
  have hSX : ∀ X : World, (∀ k, k ≠ B2 → k < W1.heap.size → X.heap[k]? = W1.heap[k]?) → X.cell? ⟨B0, 0, none⟩ = some (.slice (some ⟨b, o, none⟩) n cap) ∧ X.cell? ⟨B0, 1, none⟩ = some (.int .i64 T) ∧ X.cell? ⟨B0, 2, none⟩ = some (.int .i64 C) ∧ X.rangeAt B1 0 rs.toList ∧ X.cell? ⟨B3, 0, none⟩ = some (.func (.func 102) #[] #[]) ∧ X.cell? ⟨B3, 1, none⟩ = some (.int .i64 1) ∧ X.cell? ⟨B4, 0, none⟩ = some (.func (.func 103) #[] #[]) ∧ X.cell? ⟨B4, 1, none⟩ = some (.int .i64 (-1)) := fun X hX => by
    have x0 := (hX B0 (by omega) (by omega)).trans H0.out
    have x1 := (hX B1 (by omega) (by omega)).trans H1.out
    have x3 := (hX B3 (by omega) (by omega)).trans H3.out
    have x4 := (hX B4 (by omega) (by omega)).trans H4.out
    refine ⟨by simp [World.cell?, x0], by simp [World.cell?, x0], by simp [World.cell?, x0], fun j v hj => ?_, by simp [World.cell?, x3], by simp [World.cell?, x3], by simp [World.cell?, x4], by simp [World.cell?, x4]⟩
    rw [Nat.zero_add]
    simp [World.cell?, x1]
    simpa using hj
  have HSX := Lib.hid hSX
  clear hSX
  have hu := Try.underlying109
  have hinf : (Try.prog.info? 109).map (·.size) = some rs.toList.length := by rw [HR.out.size]; simp
  have hlow := Lib.hid (reach_low b o n cap i T C l rs lo hi W1.drew HL.out HO.out (HA.out.keep HB0.out.drew (Nat.le_refl _)) HR.out HRO.out hi' HEX.out)
  have g0 : W1.cell? ⟨B2, 0, none⟩ = some (.int .i64 0) := by simp [World.cell?, H2.out]
  have g1 : W1.cell? ⟨B2, 1, none⟩ = some (.int .i64 0) := by simp [World.cell?, H2.out]
  have f0 : W1.frozen? ⟨B2, 0, none⟩ = false := by simp [World.frozen?, H2.out]
  have f1 : W1.frozen? ⟨B2, 1, none⟩ = false := by simp [World.frozen?, H2.out]
  refine wp_region_held_drew (S := fun X => X.cell? ⟨B0, 0, none⟩ = some (.slice (some ⟨b, o, none⟩) n cap) ∧ X.cell? ⟨B0, 1, none⟩ = some (.int .i64 T) ∧ X.cell? ⟨B0, 2, none⟩ = some (.int .i64 C) ∧ X.rangeAt B1 0 rs.toList ∧ X.cell? ⟨B3, 0, none⟩ = some (.func (.func 102) #[] #[]) ∧ X.cell? ⟨B3, 1, none⟩ = some (.int .i64 1) ∧ X.cell? ⟨B4, 0, none⟩ = some (.func (.func 103) #[] #[]) ∧ X.cell? ⟨B4, 1, none⟩ = some (.int .i64 (-1))) (by kernel_rfl) (HSX.out _ (fun k h1 h2 => rfl)) (fun hS => ?_)
  refine wpAnyH_take (i := 0) (oi := { dst := some 11, op := Op.load 149 (Operand.tmp 7), type := 149, pos := "ask.go:33", after := #[], guard := none }) (v := ?_) rfl (by kernel_rfl) (by kernel_rfl) (by kernel_rfl) (fun _ _ _ h => h) (Or.inl ⟨by rfl, ?_⟩) hS ?_
  rotate_left
  · intro X hX
    obtain ⟨x0, x1, x2, x3, x4, x5, x6, x7⟩ := hX
    go_simp
    try with_reducible rfl
  simp only [Act.put, List.setIfInBounds_toArray, List.set_cons_zero, List.set_cons_succ, Array.toArray_toList]
  refine wpAnyH_take (i := 1) (oi := { dst := some 12, op := Op.load 33 (Operand.tmp 3), type := 33, pos := "ask.go:33", after := #[], guard := none }) (v := ?_) rfl (by kernel_rfl) (by kernel_rfl) (by kernel_rfl) (fun _ _ _ h => h) (Or.inl ⟨by rfl, ?_⟩) hS ?_
  rotate_left
  · intro X hX
    obtain ⟨x0, x1, x2, x3, x4, x5, x6, x7⟩ := hX
    go_simp
    try with_reducible rfl
  simp only [Act.put, List.setIfInBounds_toArray, List.set_cons_zero, List.set_cons_succ, Array.toArray_toList]
  refine wpAnyH_take (i := 2) (oi := { dst := some 13, op := Op.load 109 (Operand.tmp 4), type := 109, pos := "ask.go:33", after := #[], guard := none }) rfl (by kernel_rfl) (by kernel_rfl) (by kernel_rfl) (fun _ _ _ h => h) (yieldsIf_load_mid (by rfl) _ _ rfl _ _ rfl rs.toList _ (fun X hX => hX.2.2.2.1) hu rfl hinf) hS ?_
  simp only [Act.put, List.setIfInBounds_toArray, List.set_cons_zero, List.set_cons_succ, Array.toArray_toList]
  refine wpAnyH_take (i := 3) (oi := { dst := some 14, op := Op.move (Operand.tmp 2), type := 3, pos := "ask.go:33", after := #[], guard := none }) (v := ?_) rfl (by kernel_rfl) (by kernel_rfl) (by kernel_rfl) (fun _ _ _ h => h) (Or.inl ⟨by rfl, ?_⟩) hS ?_
  rotate_left
  · intro X hX
    obtain ⟨x0, x1, x2, x3, x4, x5, x6, x7⟩ := hX
    go_simp
    try with_reducible rfl
  simp only [Act.put, List.setIfInBounds_toArray, List.set_cons_zero, List.set_cons_succ, Array.toArray_toList]
  refine wpAnyH_take (i := 5) (oi := { dst := some 16, op := Op.load 149 (Operand.tmp 8), type := 149, pos := "ask.go:33", after := #[], guard := none }) (v := ?_) rfl (by kernel_rfl) (by kernel_rfl) (by kernel_rfl) (fun _ _ _ h => h) (Or.inl ⟨by rfl, ?_⟩) hS ?_
  rotate_left
  · intro X hX
    obtain ⟨x0, x1, x2, x3, x4, x5, x6, x7⟩ := hX
    go_simp
    try with_reducible rfl
  simp only [Act.put, List.setIfInBounds_toArray, List.set_cons_zero, List.set_cons_succ, Array.toArray_toList]
  refine wpAnyH_take (i := 6) (oi := { dst := some 17, op := Op.load 33 (Operand.tmp 3), type := 33, pos := "ask.go:33", after := #[], guard := none }) (v := ?_) rfl (by kernel_rfl) (by kernel_rfl) (by kernel_rfl) (fun _ _ _ h => h) (Or.inl ⟨by rfl, ?_⟩) hS ?_
  rotate_left
  · intro X hX
    obtain ⟨x0, x1, x2, x3, x4, x5, x6, x7⟩ := hX
    go_simp
    try with_reducible rfl
  simp only [Act.put, List.setIfInBounds_toArray, List.set_cons_zero, List.set_cons_succ, Array.toArray_toList]
  refine wpAnyH_take (i := 7) (oi := { dst := some 18, op := Op.load 109 (Operand.tmp 4), type := 109, pos := "ask.go:33", after := #[], guard := none }) rfl (by kernel_rfl) (by kernel_rfl) (by kernel_rfl) (fun _ _ _ h => h) (yieldsIf_load_mid (by rfl) _ _ rfl _ _ rfl rs.toList _ (fun X hX => hX.2.2.2.1) hu rfl hinf) hS ?_
  simp only [Act.put, List.setIfInBounds_toArray, List.set_cons_zero, List.set_cons_succ, Array.toArray_toList]
  refine wpAnyH_take (i := 8) (oi := { dst := some 19, op := Op.move (Operand.tmp 2), type := 3, pos := "ask.go:33", after := #[], guard := none }) (v := ?_) rfl (by kernel_rfl) (by kernel_rfl) (by kernel_rfl) (fun _ _ _ h => h) (Or.inl ⟨by rfl, ?_⟩) hS ?_
  rotate_left
  · intro X hX
    obtain ⟨x0, x1, x2, x3, x4, x5, x6, x7⟩ := hX
    go_simp
    try with_reducible rfl
  simp only [Act.put, List.setIfInBounds_toArray, List.set_cons_zero, List.set_cons_succ, Array.toArray_toList]
  refine wpAnyH_ready (rs := [4]) (by kernel_rfl) (by simp) (AllReadyH.cons (o := { dst := some 15, op := Op.call { callee := Callee.value (Operand.func 104), args := #[Operand.tmp 11, Operand.tmp 12, Operand.tmp 13, Operand.tmp 14], argTypes := #[149, 33, 109, 3] }, type := 3, pos := "ask.go:33", after := #[{ on := 0, ground := Ground.data }, { on := 1, ground := Ground.data }, { on := 2, ground := Ground.data }, { on := 3, ground := Ground.data }], guard := none }) rfl (fun K hK => ?_) AllReadyH.nil)
  go_simp
  refine hlow.out.mono ?_
  rintro e w2 ⟨r1, rfl, hr1, hb2⟩
  have HR1 := Lib.hid hr1
  clear hr1 hlow
  go_wp2_with fail
  refine hK.out _ _ (HSX.out _ (fun k h1 h2 => hb2.block k h2)) (fun hS2 => ?_)
  clear hS hK K
  refine wpAnyH_ready (rs := [9]) (by kernel_rfl) (by simp) (AllReadyH.cons (o := { dst := some 20, op := Op.call { callee := Callee.value (Operand.func 104), args := #[Operand.tmp 16, Operand.tmp 17, Operand.tmp 18, Operand.tmp 19], argTypes := #[149, 33, 109, 3] }, type := 3, pos := "ask.go:33", after := #[{ on := 5, ground := Ground.data }, { on := 6, ground := Ground.data }, { on := 7, ground := Ground.data }, { on := 8, ground := Ground.data }, { on := 4, ground := Ground.chain }], guard := none }) rfl (fun K hK => ?_) AllReadyH.nil)
  go_simp
  refine (reach_high b o n cap i T C l rs lo hi w2 HL.out HO.out (HA.out.keep (HB0.out.drew.trans (hb2.mono HB0.out.size)) (Nat.le_refl _)) HR.out HRO.out hi' HEX.out).mono ?_
  rintro e w3 ⟨r2, rfl, hr2, hb3⟩
  have HR2 := Lib.hid hr2
  have hX3 : ∀ k, k < W1.heap.size → w3.heap[k]? = W1.heap[k]? := fun k h2 => (hb3.block k (Nat.lt_of_lt_of_le h2 hb2.size)).trans (hb2.block k h2)
  have g2 : w3.cell? ⟨B2, 0, none⟩ = some (.int .i64 0) := by simp [World.cell?, (hX3 B2 (by omega)).trans H2.out]
  have g3 : w3.cell? ⟨B2, 1, none⟩ = some (.int .i64 0) := by simp [World.cell?, (hX3 B2 (by omega)).trans H2.out]
  have f2 : w3.frozen? ⟨B2, 0, none⟩ = false := by simp [World.frozen?, (hX3 B2 (by omega)).trans H2.out]
  have f3 : w3.frozen? ⟨B2, 1, none⟩ = false := by simp [World.frozen?, (hX3 B2 (by omega)).trans H2.out]
  have h2b := (hX3 B2 (by omega)).trans H2.out
  have HX3 := Lib.hid hX3
  have hB3 : Below w.heap.size w w3 := (HB0.out.drew.trans (hb2.mono HB0.out.size)).trans (hb3.mono (HB0.out.drew.trans (hb2.mono HB0.out.size)).size)
  have H2B := Lib.hid h2b
  have HB3 := Lib.hid hB3
  clear hr2 hX3 h2b hb3 hb2 hB3
  go_wp2_with fail
  refine hK.out _ _ (HSX.out _ (fun k h1 h2 => HX3.out k h2)) (fun hS3 => ?_)
  clear hS2 hK K
  refine wpAnyH_ready (rs := [10]) (by kernel_rfl) (by simp) (AllReadyH.cons (o := { dst := some 21, op := Op.build 58 #[(0, Operand.tmp 15), (1, Operand.tmp 20)], type := 58, pos := "ask.go:33", after := #[{ on := 4, ground := Ground.data }, { on := 9, ground := Ground.data }], guard := none }) rfl (fun K hK => ?_) AllReadyH.nil)
  go_simp
  refine hK.out _ _ hS3 (fun hS4 => ?_)
  clear hS3 hK K
  refine wpAnyH_ready (rs := [11]) (by kernel_rfl) (by simp) (AllReadyH.cons (o := { dst := none, op := Op.store 58 (Operand.tmp 6) (Operand.tmp 21), type := 0, pos := "ask.go:33", after := #[{ on := 10, ground := Ground.data }, { on := 9, ground := Ground.chain }, { on := 0, ground := Ground.phase }, { on := 1, ground := Ground.phase }, { on := 2, ground := Ground.phase }, { on := 3, ground := Ground.phase }, { on := 4, ground := Ground.phase }, { on := 5, ground := Ground.phase }, { on := 6, ground := Ground.phase }, { on := 7, ground := Ground.phase }, { on := 8, ground := Ground.phase }, { on := 9, ground := Ground.phase }, { on := 10, ground := Ground.phase }], guard := none }) rfl (fun K hK => ?_) AllReadyH.nil)
  go_simp
  refine hK.out _ _ (HSX.out _ (fun k h1 h2 => ((Below.heap_setCell _ _ _ _ h1).trans (Below.heap_setCell _ _ _ _ h1)).trans (HX3.out k h2))) (fun hS5 => ?_)
  clear hS4 hK K hS5
  refine wpAnyH_done (by kernel_rfl) ?_ _
  have hfin : BoundsPost l T C lo hi i w (.returned (.agg #[.int .i64 r1, .int .i64 r2])) ((w3.setCell ⟨B2, 0, none⟩ (.int .i64 r1)).setCell ⟨B2, 1, none⟩ (.int .i64 r2)) := ⟨r1, r2, rfl, HR1.out, HR2.out, (HB3.out.setCell (by simp; omega) _).setCell (by simp; omega) _⟩
  have HF := Lib.hid hfin
  have k0 : ((w3.setCell ⟨B2, 0, none⟩ (.int .i64 r1)).setCell ⟨B2, 1, none⟩ (.int .i64 r2)).cell? ⟨B2, 0, none⟩ = some (.int .i64 r1) := by simp [World.cell?, World.setCell, Array.getElem?_modify, H2B.out]
  have k1 : ((w3.setCell ⟨B2, 0, none⟩ (.int .i64 r1)).setCell ⟨B2, 1, none⟩ (.int .i64 r2)).cell? ⟨B2, 1, none⟩ = some (.int .i64 r2) := by simp [World.cell?, World.setCell, Array.getElem?_modify, H2B.out]
  clear hfin
  go_wp2_with fail
  exact bodyPost_ret (v := .agg #[.int .i64 r1, .int .i64 r2]) (by simp [results, Try.results79, go_sem, k0, k1]) rfl HF.out
end Go.Proofs.Ytkloaeaepjoijaa

/-
  AngleNames: the walk.
-/
import Derived.Test.YtkloaeaepjoijaaNames
set_option linter.all false
namespace Go.Proofs.Ytkloaeaepjoijaa
open Go.RowKit Go.WalkArith

theorem ints_one {W : World} {B : Nat} {x : Int} (h : W.heap[B]? = some (.cells #[.int .i64 x] 3 (0, 0))) : IntsAt W (.slice (some ⟨B, 0, none⟩) 1 1) [x] :=
  ⟨_, _, rfl, .inr ⟨B, 0, rfl, fun i hi => by
    obtain rfl : i = 0 := by simpa using hi
    simp [World.cell?, h]⟩⟩
theorem alone_angs {W : World} {b : Nat} (h : W.heap[b]? = some (.cells #[.int .i64 (-1), .int .i64 0, .int .i64 40, .int .i64 1] 104 (0, 0))) : AngsAt W (some ⟨b, 0, none⟩) aloneL := by
  refine .inr ⟨_, 0, rfl, fun i hi => ?_⟩
  obtain rfl : i = 0 := by have : i < 1 := hi; omega
  exact ⟨by simp [World.cell?, h, aloneL], by simp [World.cell?, h, aloneL], by simp [World.cell?, h, aloneL], by simp [World.cell?, h, aloneL]⟩
theorem big_angs {W : World} {b : Nat} (h : W.heap[b]? = some (.cells #[.int .i64 0, .int .i64 0, .int .i64 0, .int .i64 0, .int .i64 0, .int .i64 0, .int .i64 0, .int .i64 0, .int .i64 0, .int .i64 0, .int .i64 0, .int .i64 0, .int .i64 0, .int .i64 0, .int .i64 0, .int .i64 0, .int .i64 0, .int .i64 0, .int .i64 0, .int .i64 0, .int .i64 0, .int .i64 0, .int .i64 0, .int .i64 0, .int .i64 0, .int .i64 0, .int .i64 0, .int .i64 0, .int .i64 0, .int .i64 0, .int .i64 0, .int .i64 0, .int .i64 0, .int .i64 0, .int .i64 0, .int .i64 0, .int .i64 0, .int .i64 0, .int .i64 0, .int .i64 0, .int .i64 0, .int .i64 0, .int .i64 0, .int .i64 0, .int .i64 0, .int .i64 0, .int .i64 0, .int .i64 0, .int .i64 0, .int .i64 0, .int .i64 0, .int .i64 0] 104 (0, 0))) : AngsAt W (some ⟨b, 0, none⟩) (List.replicate 13 ⟨0, 0, 0, 0⟩) := by
  refine .inr ⟨_, 0, rfl, fun i hi => ?_⟩
  have h13 : i < 13 := by simpa using hi
  have key : ∀ j : Nat, j < 52 → W.cell? ⟨b, j, none⟩ = some (.int .i64 0) := by
    intro j hj
    have e : (#[.int .i64 0, .int .i64 0, .int .i64 0, .int .i64 0, .int .i64 0, .int .i64 0, .int .i64 0, .int .i64 0, .int .i64 0, .int .i64 0, .int .i64 0, .int .i64 0, .int .i64 0, .int .i64 0, .int .i64 0, .int .i64 0, .int .i64 0, .int .i64 0, .int .i64 0, .int .i64 0, .int .i64 0, .int .i64 0, .int .i64 0, .int .i64 0, .int .i64 0, .int .i64 0, .int .i64 0, .int .i64 0, .int .i64 0, .int .i64 0, .int .i64 0, .int .i64 0, .int .i64 0, .int .i64 0, .int .i64 0, .int .i64 0, .int .i64 0, .int .i64 0, .int .i64 0, .int .i64 0, .int .i64 0, .int .i64 0, .int .i64 0, .int .i64 0, .int .i64 0, .int .i64 0, .int .i64 0, .int .i64 0, .int .i64 0, .int .i64 0, .int .i64 0, .int .i64 0] : Array Value) = Array.replicate 52 (.int .i64 0) := by kernel_rfl
    rw [e] at h
    simp [World.cell?, h, hj]
  have e : (List.replicate 13 (⟨0, 0, 0, 0⟩ : Ang))[i] = ⟨0, 0, 0, 0⟩ := List.getElem_replicate ..
  rw [e]
  exact ⟨key _ (by omega), key _ (by omega), key _ (by omega), key _ (by omega)⟩
theorem sure_show : sureL sixL 2 1 1 ≠ 0 := by rw [names_sure1]; simp
theorem keepS4 {w wx : World} {a b c d : Addr} {x y z u : Value} (hb : Below w.heap.size w wx) (h : w.cell? a = some x ∧ w.cell? b = some y ∧ w.cell? c = some z ∧ w.cell? d = some u) : wx.cell? a = some x ∧ wx.cell? b = some y ∧ wx.cell? c = some z ∧ wx.cell? d = some u :=
  ⟨cell_later hb h.1, cell_later hb h.2.1, cell_later hb h.2.2.1, cell_later hb h.2.2.2⟩

set_option maxRecDepth 100000 in
set_option maxHeartbeats 8000000 in
theorem names_walk (w : World) : Calls Try.prog 17 #[] w fun e w' => e = .returned (.bool true) ∧ Below w.heap.size w w' := by
  go_enter Try.func17, Try.ntmps17
  go_wp2_with fail
  refine (six_new w).mono ?_
  rintro e w1 ⟨b0, rfl, lb0, ha, hb⟩
  have HB1 := Lib.hid hb
  have hlv := Lib.hid (leave_some (cap := 6) (n := 6) (by omega) rfl (six_angs0 ha) six_asked2 names_leave)
  clear ha hb lb0
  go_wp2_with fail
  refine (hlv.out).mono ?_
  rintro e w2 ⟨Al, cl, rfl, hIl, hb⟩
  have HB2 := Lib.hid (HB1.out.trans (hb.mono HB1.out.size))
  clear hIl hlv
  clear hb HB1 
  go_wp2_with fail
  refine (six_new w2).mono ?_
  rintro e w3 ⟨b1, rfl, lb1, ha, hb⟩
  have HB3 := Lib.hid (HB2.out.trans (hb.mono HB2.out.size))
  have Nb13 := Lib.hid ha
  have ob1 : w.heap.size ≤ b1 := by have := HB2.out.size; omega
  clear ha lb1
  clear hb HB2 
  have hpv := Lib.hid (prove_yes (cap := 6) (n := 6) (by omega) rfl (six_angs0 Nb13.out) names_sure1)
  clear Nb13
  go_wp2_with fail
  refine (hpv.out).mono ?_
  rintro e w4 ⟨At, Ac, tc, cc, ts, cs, rfl, hIt, hIc, ht5, hc5, hpr, hb⟩
  have HB4 := Lib.hid (HB3.out.trans (hb.mono HB3.out.size))
  have FT4 := Lib.hid hIt
  have FC4 := Lib.hid hIc
  have HPR := Lib.hid hpr
  clear hIt hIc hpr hpv
  clear hb HB3 
  go_wp2_with fail
  have hb : Below w4.heap.size w4 (w4.alloc (.cells #[.slice At ts.length tc, .slice Ac cs.length cc] 37)) := (Below.refl _ _).alloc (Nat.le_refl _) _
  have hn := Go.heap_alloc_new w4 (.cells #[.slice At ts.length tc, .slice Ac cs.length cc] 37)
  have hz : (w4.alloc (.cells #[.slice At ts.length tc, .slice Ac cs.length cc] 37)).heap.size = w4.heap.size + 1 := by simp
  obtain ⟨B3, hB3⟩ : ∃ x, w4.heap.size = x := ⟨_, rfl⟩
  have oB3 : w.heap.size ≤ B3 := by have := HB4.out.size; omega
  generalize w4.alloc (.cells #[.slice At ts.length tc, .slice Ac cs.length cc] 37) = w5 at hb hn hz ⊢
  rw [hB3] at hn hz
  rw [hB3]
  have zB3 := hz
  have HB5 := Lib.hid (HB4.out.trans (hb.mono HB4.out.size))
  have FT5 := Lib.hid (FT4.out.keep hb (Nat.le_refl _))
  have FC5 := Lib.hid (FC4.out.keep hb (Nat.le_refl _))
  have NB35 := Lib.hid hn
  clear hb hn hz hB3  HB4 FT4 FC4
  have hb : Below w5.heap.size w5 (w5.alloc (.cells #[.int .i64 0] 3)) := (Below.refl _ _).alloc (Nat.le_refl _) _
  have hn := Go.heap_alloc_new w5 (.cells #[.int .i64 0] 3)
  have hz : (w5.alloc (.cells #[.int .i64 0] 3)).heap.size = w5.heap.size + 1 := by simp
  obtain ⟨Bl, hBl'⟩ : ∃ x, B3 + 1 = x := ⟨_, rfl⟩
  have hBl : w5.heap.size = Bl := zB3.trans hBl'
  have oBl : w.heap.size ≤ Bl := by have := HB5.out.size; omega
  have oB3Bl : B3 < Bl := by have := (Array.getElem?_eq_some_iff.1 NB35.out).1; omega
  generalize w5.alloc (.cells #[.int .i64 0] 3) = w6 at hb hn hz ⊢
  rw [hBl] at hn hz
  rw [hBl']
  have zBl := hz
  have HB6 := Lib.hid (HB5.out.trans (hb.mono HB5.out.size))
  have FT6 := Lib.hid (FT5.out.keep hb (Nat.le_refl _))
  have FC6 := Lib.hid (FC5.out.keep hb (Nat.le_refl _))
  have NB36 := Lib.hid ((hb.block B3 (Array.getElem?_eq_some_iff.1 NB35.out).1).trans NB35.out)
  have NBl6 := Lib.hid hn
  clear hb hn hz hBl hBl' zB3 HB5 FT5 FC5 NB35
  have FL6 := Lib.hid (ints_one NBl6.out)
  have hb : Below w6.heap.size w6 (w6.alloc (.cells #[.slice (some ⟨Bl, 0, none⟩) 1 1, .slice none 0 0] 37)) := (Below.refl _ _).alloc (Nat.le_refl _) _
  have hn := Go.heap_alloc_new w6 (.cells #[.slice (some ⟨Bl, 0, none⟩) 1 1, .slice none 0 0] 37)
  have hz : (w6.alloc (.cells #[.slice (some ⟨Bl, 0, none⟩) 1 1, .slice none 0 0] 37)).heap.size = w6.heap.size + 1 := by simp
  obtain ⟨B5, hB5'⟩ : ∃ x, Bl + 1 = x := ⟨_, rfl⟩
  have hB5 : w6.heap.size = B5 := zBl.trans hB5'
  have oB5 : w.heap.size ≤ B5 := by have := HB6.out.size; omega
  have oB3B5 : B3 < B5 := by have := (Array.getElem?_eq_some_iff.1 NB36.out).1; omega
  have oBlB5 : Bl < B5 := by have := (Array.getElem?_eq_some_iff.1 NBl6.out).1; omega
  generalize w6.alloc (.cells #[.slice (some ⟨Bl, 0, none⟩) 1 1, .slice none 0 0] 37) = w7 at hb hn hz ⊢
  rw [hB5] at hn hz
  rw [hB5']
  have zB5 := hz
  have HB7 := Lib.hid (HB6.out.trans (hb.mono HB6.out.size))
  have FT7 := Lib.hid (FT6.out.keep hb (Nat.le_refl _))
  have FC7 := Lib.hid (FC6.out.keep hb (Nat.le_refl _))
  have FL7 := Lib.hid (FL6.out.keep hb (Nat.le_refl _))
  have NB37 := Lib.hid ((hb.block B3 (Array.getElem?_eq_some_iff.1 NB36.out).1).trans NB36.out)
  have NBl7 := Lib.hid ((hb.block Bl (Array.getElem?_eq_some_iff.1 NBl6.out).1).trans NBl6.out)
  have NB57 := Lib.hid hn
  clear hb hn hz hB5 hB5' zBl HB6 FT6 FC6 FL6 NB36 NBl6
  clear zB5
  have hc1 := (cutB_proves (l := sixL) (T := 2) (C := 1) (err := 1) (ts := ts) (cs := cs)).trans (by rw [HPR.out, decide_eq_true (by decide +kernel)]; rfl : _ = true)
  have HC1 := Lib.hid hc1
  have HC2 := Lib.hid (cutB_no (ts := ts) (cs := cs) (show canE sixL 2 1 2 [] = true by decide +kernel))
  have S0 : w7.cell? ⟨B3, 0, none⟩ = some (.slice At ts.length tc) ∧ w7.cell? ⟨B3, 1, none⟩ = some (.slice Ac cs.length cc) ∧ w7.cell? ⟨B5, 0, none⟩ = some (.slice (some ⟨Bl, 0, none⟩) 1 1) ∧ w7.cell? ⟨B5, 1, none⟩ = some (.slice none 0 0) := ⟨by simp [World.cell?, NB37.out], by simp [World.cell?, NB37.out], by simp [World.cell?, NB57.out], by simp [World.cell?, NB57.out]⟩
  have HS0 := Lib.hid S0
  clear hc1 S0
  go_cut [84] from 36 to 84 (fun s84 wc => s84 = .bool false ∧ Below w.heap.size w wc)
  case first =>
    refine wp_region_held_drew (S := fun X => X.cell? ⟨B3, 0, none⟩ = some (.slice At ts.length tc) ∧ X.cell? ⟨B3, 1, none⟩ = some (.slice Ac cs.length cc) ∧ X.cell? ⟨B5, 0, none⟩ = some (.slice (some ⟨Bl, 0, none⟩) 1 1) ∧ X.cell? ⟨B5, 1, none⟩ = some (.slice none 0 0)) (by kernel_rfl) (HS0.out) (fun hS0 => ?_)
    refine wpAnyH_take (i := 0) (oi := { dst := some 36, op := Op.move (Operand.tmp 2), type := 39, pos := "outright.go:16", after := #[], guard := none }) (v := ?_) rfl (by kernel_rfl) (by kernel_rfl) (by kernel_rfl) (fun _ _ _ h => h) (Or.inl ⟨by rfl, ?_⟩) hS0 ?_
    rotate_left
    · intro X hX
      obtain ⟨x0, x1, x2, x3⟩ := hX
      go_simp
      try with_reducible rfl
    simp only [Act.put, List.setIfInBounds_toArray, List.set_cons_zero, List.set_cons_succ, Array.toArray_toList]
    refine wpAnyH_take (i := 1) (oi := { dst := some 37, op := Op.binOp BinOp.neq 39 (Operand.tmp 36) (Operand.const (Value.int IntKind.i64 0)) 39, type := 4, pos := "outright.go:16", after := #[{ on := 0, ground := Ground.data }], guard := none }) (v := ?_) rfl (by kernel_rfl) (by kernel_rfl) (by kernel_rfl) (fun _ _ _ h => h) (Or.inl ⟨by rfl, ?_⟩) hS0 ?_
    rotate_left
    · intro X hX
      obtain ⟨x0, x1, x2, x3⟩ := hX
      go_simp
      try with_reducible rfl
    simp only [Act.put, List.setIfInBounds_toArray, List.set_cons_zero, List.set_cons_succ, Array.toArray_toList]
    refine wpAnyH_take (i := 2) (oi := { dst := some 38, op := Op.move (Operand.tmp 37), type := 4, pos := "outright.go:16", after := #[{ on := 1, ground := Ground.data }], guard := none }) (v := ?_) rfl (by kernel_rfl) (by kernel_rfl) (by kernel_rfl) (fun _ _ _ h => h) (Or.inl ⟨by rfl, ?_⟩) hS0 ?_
    rotate_left
    · intro X hX
      obtain ⟨x0, x1, x2, x3⟩ := hX
      go_simp
      try with_reducible rfl
    simp only [Act.put, List.setIfInBounds_toArray, List.set_cons_zero, List.set_cons_succ, Array.toArray_toList]
    refine wpAnyH_take (i := 3) (oi := { dst := some 39, op := Op.move (Operand.tmp 1), type := 25, pos := "outright.go:16", after := #[{ on := 2, ground := Ground.guard }], guard := some (2, false) }) (v := ?_) rfl (by kernel_rfl) (by kernel_rfl) (by kernel_rfl) (fun _ _ _ h => h) (Or.inl ⟨by rfl, ?_⟩) hS0 ?_
    rotate_left
    · intro X hX
      obtain ⟨x0, x1, x2, x3⟩ := hX
      go_simp
      try with_reducible rfl
    simp only [Act.put, List.setIfInBounds_toArray, List.set_cons_zero, List.set_cons_succ, Array.toArray_toList]
    refine wpAnyH_take (i := 4) (oi := { dst := some 40, op := Op.call { callee := Callee.builtin Builtin.len, args := #[Operand.tmp 39], argTypes := #[25] }, type := 3, pos := "outright.go:16", after := #[{ on := 3, ground := Ground.data }, { on := 2, ground := Ground.guard }], guard := some (2, false) }) (v := ?_) rfl (by kernel_rfl) (by kernel_rfl) (by kernel_rfl) (fun _ _ _ h => h) (Or.inl ⟨by rfl, ?_⟩) hS0 ?_
    rotate_left
    · intro X hX
      obtain ⟨x0, x1, x2, x3⟩ := hX
      go_simp
      try with_reducible rfl
    simp only [Act.put, List.setIfInBounds_toArray, List.set_cons_zero, List.set_cons_succ, Array.toArray_toList]
    refine wpAnyH_take (i := 5) (oi := { dst := some 41, op := Op.binOp BinOp.neq 3 (Operand.tmp 40) (Operand.const (Value.int IntKind.i64 0)) 3, type := 4, pos := "outright.go:16", after := #[{ on := 4, ground := Ground.data }, { on := 2, ground := Ground.guard }], guard := some (2, false) }) (v := ?_) rfl (by kernel_rfl) (by kernel_rfl) (by kernel_rfl) (fun _ _ _ h => h) (Or.inl ⟨by rfl, ?_⟩) hS0 ?_
    rotate_left
    · intro X hX
      obtain ⟨x0, x1, x2, x3⟩ := hX
      go_simp
      try with_reducible rfl
    simp only [Act.put, List.setIfInBounds_toArray, List.set_cons_zero, List.set_cons_succ, Array.toArray_toList]
    refine wpAnyH_take (i := 6) (oi := { dst := some 42, op := Op.pick (Operand.tmp 38) (Operand.const (Value.bool true)) (Operand.tmp 41), type := 4, pos := "outright.go:16", after := #[{ on := 2, ground := Ground.data }, { on := 5, ground := Ground.data }], guard := none }) (v := ?_) rfl (by kernel_rfl) (by kernel_rfl) (by kernel_rfl) (fun _ _ _ h => h) (Or.inl ⟨by rfl, ?_⟩) hS0 ?_
    rotate_left
    · intro X hX
      obtain ⟨x0, x1, x2, x3⟩ := hX
      go_simp
      try with_reducible rfl
    simp only [Act.put, List.setIfInBounds_toArray, List.set_cons_zero, List.set_cons_succ, Array.toArray_toList]
    refine wpAnyH_take (i := 7) (oi := { dst := some 43, op := Op.move (Operand.tmp 42), type := 4, pos := "outright.go:16", after := #[{ on := 6, ground := Ground.data }, { on := 2, ground := Ground.chain }], guard := none }) (v := ?_) rfl (by kernel_rfl) (by kernel_rfl) (by kernel_rfl) (fun _ _ _ h => h) (Or.inl ⟨by rfl, ?_⟩) hS0 ?_
    rotate_left
    · intro X hX
      obtain ⟨x0, x1, x2, x3⟩ := hX
      go_simp
      try with_reducible rfl
    simp only [Act.put, List.setIfInBounds_toArray, List.set_cons_zero, List.set_cons_succ, Array.toArray_toList]
    refine wpAnyH_take (i := 8) (oi := { dst := some 44, op := Op.move (Operand.tmp 4), type := 39, pos := "outright.go:16", after := #[{ on := 7, ground := Ground.guard }], guard := some (7, false) }) (v := ?_) rfl (by kernel_rfl) (by kernel_rfl) (by kernel_rfl) (fun _ _ _ h => h) (Or.inl ⟨by rfl, ?_⟩) hS0 ?_
    rotate_left
    · intro X hX
      obtain ⟨x0, x1, x2, x3⟩ := hX
      go_simp
      try with_reducible rfl
    simp only [Act.put, List.setIfInBounds_toArray, List.set_cons_zero, List.set_cons_succ, Array.toArray_toList]
    refine wpAnyH_take (i := 9) (oi := { dst := some 45, op := Op.binOp BinOp.neq 39 (Operand.tmp 44) (Operand.const (Value.int IntKind.i64 0)) 39, type := 4, pos := "outright.go:16", after := #[{ on := 8, ground := Ground.data }, { on := 7, ground := Ground.guard }], guard := some (7, false) }) (v := ?_) rfl (by kernel_rfl) (by kernel_rfl) (by kernel_rfl) (fun _ _ _ h => h) (Or.inl ⟨by rfl, ?_⟩) hS0 ?_
    rotate_left
    · intro X hX
      obtain ⟨x0, x1, x2, x3⟩ := hX
      go_simp
      try with_reducible rfl
    simp only [Act.put, List.setIfInBounds_toArray, List.set_cons_zero, List.set_cons_succ, Array.toArray_toList]
    refine wpAnyH_take (i := 10) (oi := { dst := some 46, op := Op.pick (Operand.tmp 43) (Operand.const (Value.bool true)) (Operand.tmp 45), type := 4, pos := "outright.go:16", after := #[{ on := 7, ground := Ground.data }, { on := 9, ground := Ground.data }], guard := none }) (v := ?_) rfl (by kernel_rfl) (by kernel_rfl) (by kernel_rfl) (fun _ _ _ h => h) (Or.inl ⟨by rfl, ?_⟩) hS0 ?_
    rotate_left
    · intro X hX
      obtain ⟨x0, x1, x2, x3⟩ := hX
      go_simp
      try with_reducible rfl
    simp only [Act.put, List.setIfInBounds_toArray, List.set_cons_zero, List.set_cons_succ, Array.toArray_toList]
    refine wpAnyH_take (i := 11) (oi := { dst := some 47, op := Op.move (Operand.tmp 46), type := 4, pos := "outright.go:16", after := #[{ on := 10, ground := Ground.data }, { on := 7, ground := Ground.chain }], guard := none }) (v := ?_) rfl (by kernel_rfl) (by kernel_rfl) (by kernel_rfl) (fun _ _ _ h => h) (Or.inl ⟨by rfl, ?_⟩) hS0 ?_
    rotate_left
    · intro X hX
      obtain ⟨x0, x1, x2, x3⟩ := hX
      go_simp
      try with_reducible rfl
    simp only [Act.put, List.setIfInBounds_toArray, List.set_cons_zero, List.set_cons_succ, Array.toArray_toList]
    refine wpAnyH_take (i := 13) (oi := { dst := some 49, op := Op.load 37 (Operand.tmp 3), type := 37, pos := "outright.go:16", after := #[{ on := 11, ground := Ground.guard }], guard := some (11, false) }) (v := ?_) rfl (by kernel_rfl) (by kernel_rfl) (by kernel_rfl) (fun _ _ _ h => h) (Or.inl ⟨by rfl, ?_⟩) hS0 ?_
    rotate_left
    · intro X hX
      obtain ⟨x0, x1, x2, x3⟩ := hX
      go_simp
      try with_reducible rfl
    simp only [Act.put, List.setIfInBounds_toArray, List.set_cons_zero, List.set_cons_succ, Array.toArray_toList]
    refine wpAnyH_ready (rs := [12]) (by kernel_rfl) (by simp) (AllReadyH.cons (o := { dst := some 48, op := Op.call { callee := Callee.value (Operand.func 65), args := #[], argTypes := #[] }, type := 33, pos := "outright.go:16", after := #[{ on := 11, ground := Ground.chain }, { on := 11, ground := Ground.guard }], guard := some (11, false) }) rfl (fun K hK => ?_) AllReadyH.nil)
    go_simp
    refine (six_new _).mono ?_
    rintro e x1 ⟨d1, rfl, ld1, ha, hb⟩
    have hX1 := (Below.refl _ w7).drew.trans hb
    have HA1 := Lib.hid ha
    clear ha hb ld1
    go_wp2_with fail
    refine hK.out _ _ (keepS4 hX1 HS0.out) (fun hS1 => ?_)
    clear hS0 hK K
    refine wpAnyH_ready (rs := [14]) (by kernel_rfl) (by simp) (AllReadyH.cons (o := { dst := some 50, op := Op.call { callee := Callee.value (Operand.func 24), args := #[Operand.tmp 48, Operand.const (Value.int IntKind.i64 1), Operand.tmp 49], argTypes := #[33, 3, 37] }, type := 4, pos := "outright.go:16", after := #[{ on := 12, ground := Ground.data }, { on := 13, ground := Ground.data }, { on := 12, ground := Ground.chain }, { on := 11, ground := Ground.guard }], guard := some (11, false) }) rfl (fun K hK => ?_) AllReadyH.nil)
    go_simp
    have hcu := proveCut_any _ 6 6 2 1 1 sixL (.slice At ts.length tc) (.slice Ac cs.length cc) ts cs x1 (by omega) rfl (six_angs0 HA1.out) (FT7.out.keep hX1 (Nat.le_refl _)) (FC7.out.keep hX1 (Nat.le_refl _)) (by first | omega | simp) (by first | omega | simp)
    rw [HC1.out] at hcu
    have HCU := Lib.hid hcu
    clear hcu
    refine HCU.out.mono ?_
    rintro e x2 ⟨rfl, hb⟩
    have hX2 := hX1.trans (hb.mono hX1.size)
    clear hb HCU HA1 hX1
    go_wp2_with fail
    refine hK.out _ _ (keepS4 hX2 HS0.out) (fun hS2 => ?_)
    clear hS1 hK K
    refine wpAnyH_take (i := 15) (oi := { dst := some 51, op := Op.unOp UnOp.not 4 (Operand.tmp 50), type := 4, pos := "outright.go:16", after := #[{ on := 14, ground := Ground.data }, { on := 11, ground := Ground.guard }], guard := some (11, false) }) (v := ?_) rfl (by kernel_rfl) (by kernel_rfl) (by kernel_rfl) (fun _ _ _ h => h) (Or.inl ⟨by rfl, ?_⟩) hS2 ?_
    rotate_left
    · intro X hX
      obtain ⟨x0, x1, x2, x3⟩ := hX
      go_simp
      try with_reducible rfl
    simp only [Act.put, List.setIfInBounds_toArray, List.set_cons_zero, List.set_cons_succ, Array.toArray_toList]
    refine wpAnyH_take (i := 16) (oi := { dst := some 52, op := Op.pick (Operand.tmp 47) (Operand.const (Value.bool true)) (Operand.tmp 51), type := 4, pos := "outright.go:16", after := #[{ on := 11, ground := Ground.data }, { on := 15, ground := Ground.data }], guard := none }) (v := ?_) rfl (by kernel_rfl) (by kernel_rfl) (by kernel_rfl) (fun _ _ _ h => h) (Or.inl ⟨by rfl, ?_⟩) hS2 ?_
    rotate_left
    · intro X hX
      obtain ⟨x0, x1, x2, x3⟩ := hX
      go_simp
      try with_reducible rfl
    simp only [Act.put, List.setIfInBounds_toArray, List.set_cons_zero, List.set_cons_succ, Array.toArray_toList]
    refine wpAnyH_take (i := 17) (oi := { dst := some 53, op := Op.move (Operand.tmp 52), type := 4, pos := "outright.go:16", after := #[{ on := 16, ground := Ground.data }, { on := 14, ground := Ground.chain }], guard := none }) (v := ?_) rfl (by kernel_rfl) (by kernel_rfl) (by kernel_rfl) (fun _ _ _ h => h) (Or.inl ⟨by rfl, ?_⟩) hS2 ?_
    rotate_left
    · intro X hX
      obtain ⟨x0, x1, x2, x3⟩ := hX
      go_simp
      try with_reducible rfl
    simp only [Act.put, List.setIfInBounds_toArray, List.set_cons_zero, List.set_cons_succ, Array.toArray_toList]
    refine wpAnyH_take (i := 19) (oi := { dst := some 55, op := Op.load 37 (Operand.tmp 3), type := 37, pos := "outright.go:16", after := #[{ on := 17, ground := Ground.guard }], guard := some (17, false) }) (v := ?_) rfl (by kernel_rfl) (by kernel_rfl) (by kernel_rfl) (fun _ _ _ h => h) (Or.inl ⟨by rfl, ?_⟩) hS2 ?_
    rotate_left
    · intro X hX
      obtain ⟨x0, x1, x2, x3⟩ := hX
      go_simp
      try with_reducible rfl
    simp only [Act.put, List.setIfInBounds_toArray, List.set_cons_zero, List.set_cons_succ, Array.toArray_toList]
    refine wpAnyH_ready (rs := [18]) (by kernel_rfl) (by simp) (AllReadyH.cons (o := { dst := some 54, op := Op.call { callee := Callee.value (Operand.func 65), args := #[], argTypes := #[] }, type := 33, pos := "outright.go:16", after := #[{ on := 17, ground := Ground.chain }, { on := 17, ground := Ground.guard }], guard := some (17, false) }) rfl (fun K hK => ?_) AllReadyH.nil)
    go_simp
    refine (six_new _).mono ?_
    rintro e x3 ⟨d3, rfl, ld3, ha, hb⟩
    have hX3 := hX2.trans (hb.mono hX2.size)
    have HA3 := Lib.hid ha
    clear ha hb ld3
    go_wp2_with fail
    refine hK.out _ _ (keepS4 hX3 HS0.out) (fun hS3 => ?_)
    clear hS2 hK K
    refine wpAnyH_ready (rs := [20]) (by kernel_rfl) (by simp) (AllReadyH.cons (o := { dst := some 56, op := Op.call { callee := Callee.value (Operand.func 24), args := #[Operand.tmp 54, Operand.const (Value.int IntKind.i64 2), Operand.tmp 55], argTypes := #[33, 3, 37] }, type := 4, pos := "outright.go:16", after := #[{ on := 18, ground := Ground.data }, { on := 19, ground := Ground.data }, { on := 18, ground := Ground.chain }, { on := 17, ground := Ground.guard }], guard := some (17, false) }) rfl (fun K hK => ?_) AllReadyH.nil)
    go_simp
    have hcu := proveCut_any _ 6 6 2 1 2 sixL (.slice At ts.length tc) (.slice Ac cs.length cc) ts cs x3 (by omega) rfl (six_angs0 HA3.out) (FT7.out.keep hX3 (Nat.le_refl _)) (FC7.out.keep hX3 (Nat.le_refl _)) (by first | omega | simp) (by first | omega | simp)
    rw [HC2.out] at hcu
    have HCU := Lib.hid hcu
    clear hcu
    refine HCU.out.mono ?_
    rintro e x4 ⟨rfl, hb⟩
    have hX4 := hX3.trans (hb.mono hX3.size)
    clear hb HCU HA3 hX3
    go_wp2_with fail
    refine hK.out _ _ (keepS4 hX4 HS0.out) (fun hS4 => ?_)
    clear hS3 hK K
    refine wpAnyH_take (i := 21) (oi := { dst := some 57, op := Op.pick (Operand.tmp 53) (Operand.const (Value.bool true)) (Operand.tmp 56), type := 4, pos := "outright.go:16", after := #[{ on := 17, ground := Ground.data }, { on := 20, ground := Ground.data }], guard := none }) (v := ?_) rfl (by kernel_rfl) (by kernel_rfl) (by kernel_rfl) (fun _ _ _ h => h) (Or.inl ⟨by rfl, ?_⟩) hS4 ?_
    rotate_left
    · intro X hX
      obtain ⟨x0, x1, x2, x3⟩ := hX
      go_simp
      try with_reducible rfl
    simp only [Act.put, List.setIfInBounds_toArray, List.set_cons_zero, List.set_cons_succ, Array.toArray_toList]
    refine wpAnyH_take (i := 22) (oi := { dst := some 58, op := Op.move (Operand.tmp 57), type := 4, pos := "outright.go:16", after := #[{ on := 21, ground := Ground.data }, { on := 20, ground := Ground.chain }], guard := none }) (v := ?_) rfl (by kernel_rfl) (by kernel_rfl) (by kernel_rfl) (fun _ _ _ h => h) (Or.inl ⟨by rfl, ?_⟩) hS4 ?_
    rotate_left
    · intro X hX
      obtain ⟨x0, x1, x2, x3⟩ := hX
      go_simp
      try with_reducible rfl
    simp only [Act.put, List.setIfInBounds_toArray, List.set_cons_zero, List.set_cons_succ, Array.toArray_toList]
    refine wpAnyH_take (i := 24) (oi := { dst := some 60, op := Op.load 37 (Operand.tmp 5), type := 37, pos := "outright.go:16", after := #[{ on := 22, ground := Ground.guard }], guard := some (22, false) }) (v := ?_) rfl (by kernel_rfl) (by kernel_rfl) (by kernel_rfl) (fun _ _ _ h => h) (Or.inl ⟨by rfl, ?_⟩) hS4 ?_
    rotate_left
    · intro X hX
      obtain ⟨x0, x1, x2, x3⟩ := hX
      go_simp
      try with_reducible rfl
    simp only [Act.put, List.setIfInBounds_toArray, List.set_cons_zero, List.set_cons_succ, Array.toArray_toList]
    refine wpAnyH_ready (rs := [23]) (by kernel_rfl) (by simp) (AllReadyH.cons (o := { dst := some 59, op := Op.call { callee := Callee.value (Operand.func 65), args := #[], argTypes := #[] }, type := 33, pos := "outright.go:16", after := #[{ on := 22, ground := Ground.chain }, { on := 22, ground := Ground.guard }], guard := some (22, false) }) rfl (fun K hK => ?_) AllReadyH.nil)
    go_simp
    refine (six_new _).mono ?_
    rintro e x5 ⟨d5, rfl, ld5, ha, hb⟩
    have hX5 := hX4.trans (hb.mono hX4.size)
    have HA5 := Lib.hid ha
    clear ha hb ld5
    go_wp2_with fail
    refine hK.out _ _ (keepS4 hX5 HS0.out) (fun hS5 => ?_)
    clear hS4 hK K
    refine wpAnyH_ready (rs := [25]) (by kernel_rfl) (by simp) (AllReadyH.cons (o := { dst := some 61, op := Op.call { callee := Callee.value (Operand.func 24), args := #[Operand.tmp 59, Operand.const (Value.int IntKind.i64 0), Operand.tmp 60], argTypes := #[33, 3, 37] }, type := 4, pos := "outright.go:16", after := #[{ on := 23, ground := Ground.data }, { on := 24, ground := Ground.data }, { on := 23, ground := Ground.chain }, { on := 22, ground := Ground.guard }], guard := some (22, false) }) rfl (fun K hK => ?_) AllReadyH.nil)
    go_simp
    have hcu := proveCut_any _ 6 6 2 1 0 sixL (.slice (some ⟨Bl, 0, none⟩) 1 1) (.slice none 0 0) [0] [] x5 (by omega) rfl (six_angs0 HA5.out) (FL7.out.keep hX5 (Nat.le_refl _)) (IntsAt.nil _) (by first | omega | simp) (by first | omega | simp)
    rw [names_cut0] at hcu
    have HCU := Lib.hid hcu
    clear hcu
    refine HCU.out.mono ?_
    rintro e x6 ⟨rfl, hb⟩
    have hX6 := hX5.trans (hb.mono hX5.size)
    clear hb HCU HA5 hX5
    go_wp2_with fail
    refine hK.out _ _ (keepS4 hX6 HS0.out) (fun hS6 => ?_)
    clear hS5 hK K
    refine wpAnyH_take (i := 26) (oi := { dst := some 62, op := Op.unOp UnOp.not 4 (Operand.tmp 61), type := 4, pos := "outright.go:16", after := #[{ on := 25, ground := Ground.data }, { on := 22, ground := Ground.guard }], guard := some (22, false) }) (v := ?_) rfl (by kernel_rfl) (by kernel_rfl) (by kernel_rfl) (fun _ _ _ h => h) (Or.inl ⟨by rfl, ?_⟩) hS6 ?_
    rotate_left
    · intro X hX
      obtain ⟨x0, x1, x2, x3⟩ := hX
      go_simp
      try with_reducible rfl
    simp only [Act.put, List.setIfInBounds_toArray, List.set_cons_zero, List.set_cons_succ, Array.toArray_toList]
    refine wpAnyH_take (i := 27) (oi := { dst := some 63, op := Op.pick (Operand.tmp 58) (Operand.const (Value.bool true)) (Operand.tmp 62), type := 4, pos := "outright.go:16", after := #[{ on := 22, ground := Ground.data }, { on := 26, ground := Ground.data }], guard := none }) (v := ?_) rfl (by kernel_rfl) (by kernel_rfl) (by kernel_rfl) (fun _ _ _ h => h) (Or.inl ⟨by rfl, ?_⟩) hS6 ?_
    rotate_left
    · intro X hX
      obtain ⟨x0, x1, x2, x3⟩ := hX
      go_simp
      try with_reducible rfl
    simp only [Act.put, List.setIfInBounds_toArray, List.set_cons_zero, List.set_cons_succ, Array.toArray_toList]
    refine wpAnyH_take (i := 28) (oi := { dst := some 64, op := Op.move (Operand.tmp 63), type := 4, pos := "outright.go:16", after := #[{ on := 27, ground := Ground.data }, { on := 25, ground := Ground.chain }], guard := none }) (v := ?_) rfl (by kernel_rfl) (by kernel_rfl) (by kernel_rfl) (fun _ _ _ h => h) (Or.inl ⟨by rfl, ?_⟩) hS6 ?_
    rotate_left
    · intro X hX
      obtain ⟨x0, x1, x2, x3⟩ := hX
      go_simp
      try with_reducible rfl
    simp only [Act.put, List.setIfInBounds_toArray, List.set_cons_zero, List.set_cons_succ, Array.toArray_toList]
    refine wpAnyH_take (i := 30) (oi := { dst := some 66, op := Op.load 37 (Operand.tmp 5), type := 37, pos := "outright.go:16", after := #[{ on := 28, ground := Ground.guard }], guard := some (28, false) }) (v := ?_) rfl (by kernel_rfl) (by kernel_rfl) (by kernel_rfl) (fun _ _ _ h => h) (Or.inl ⟨by rfl, ?_⟩) hS6 ?_
    rotate_left
    · intro X hX
      obtain ⟨x0, x1, x2, x3⟩ := hX
      go_simp
      try with_reducible rfl
    simp only [Act.put, List.setIfInBounds_toArray, List.set_cons_zero, List.set_cons_succ, Array.toArray_toList]
    refine wpAnyH_ready (rs := [29]) (by kernel_rfl) (by simp) (AllReadyH.cons (o := { dst := some 65, op := Op.call { callee := Callee.value (Operand.func 65), args := #[], argTypes := #[] }, type := 33, pos := "outright.go:16", after := #[{ on := 28, ground := Ground.chain }, { on := 28, ground := Ground.guard }], guard := some (28, false) }) rfl (fun K hK => ?_) AllReadyH.nil)
    go_simp
    refine (six_new _).mono ?_
    rintro e x7 ⟨d7, rfl, ld7, ha, hb⟩
    have hX7 := hX6.trans (hb.mono hX6.size)
    have HA7 := Lib.hid ha
    clear ha hb ld7
    go_wp2_with fail
    refine hK.out _ _ (keepS4 hX7 HS0.out) (fun hS7 => ?_)
    clear hS6 hK K
    refine wpAnyH_ready (rs := [31]) (by kernel_rfl) (by simp) (AllReadyH.cons (o := { dst := some 67, op := Op.call { callee := Callee.value (Operand.func 24), args := #[Operand.tmp 65, Operand.const (Value.int IntKind.i64 1), Operand.tmp 66], argTypes := #[33, 3, 37] }, type := 4, pos := "outright.go:16", after := #[{ on := 29, ground := Ground.data }, { on := 30, ground := Ground.data }, { on := 29, ground := Ground.chain }, { on := 28, ground := Ground.guard }], guard := some (28, false) }) rfl (fun K hK => ?_) AllReadyH.nil)
    go_simp
    have hcu := proveCut_any _ 6 6 2 1 1 sixL (.slice (some ⟨Bl, 0, none⟩) 1 1) (.slice none 0 0) [0] [] x7 (by omega) rfl (six_angs0 HA7.out) (FL7.out.keep hX7 (Nat.le_refl _)) (IntsAt.nil _) (by first | omega | simp) (by first | omega | simp)
    rw [names_cut1] at hcu
    have HCU := Lib.hid hcu
    clear hcu
    refine HCU.out.mono ?_
    rintro e x8 ⟨rfl, hb⟩
    have hX8 := hX7.trans (hb.mono hX7.size)
    clear hb HCU HA7 hX7
    go_wp2_with fail
    refine hK.out _ _ (keepS4 hX8 HS0.out) (fun hS8 => ?_)
    clear hS7 hK K
    refine wpAnyH_take (i := 32) (oi := { dst := some 68, op := Op.pick (Operand.tmp 64) (Operand.const (Value.bool true)) (Operand.tmp 67), type := 4, pos := "outright.go:16", after := #[{ on := 28, ground := Ground.data }, { on := 31, ground := Ground.data }], guard := none }) (v := ?_) rfl (by kernel_rfl) (by kernel_rfl) (by kernel_rfl) (fun _ _ _ h => h) (Or.inl ⟨by rfl, ?_⟩) hS8 ?_
    rotate_left
    · intro X hX
      obtain ⟨x0, x1, x2, x3⟩ := hX
      go_simp
      try with_reducible rfl
    simp only [Act.put, List.setIfInBounds_toArray, List.set_cons_zero, List.set_cons_succ, Array.toArray_toList]
    refine wpAnyH_take (i := 33) (oi := { dst := some 69, op := Op.move (Operand.tmp 68), type := 4, pos := "outright.go:16", after := #[{ on := 32, ground := Ground.data }, { on := 31, ground := Ground.chain }], guard := none }) (v := ?_) rfl (by kernel_rfl) (by kernel_rfl) (by kernel_rfl) (fun _ _ _ h => h) (Or.inl ⟨by rfl, ?_⟩) hS8 ?_
    rotate_left
    · intro X hX
      obtain ⟨x0, x1, x2, x3⟩ := hX
      go_simp
      try with_reducible rfl
    simp only [Act.put, List.setIfInBounds_toArray, List.set_cons_zero, List.set_cons_succ, Array.toArray_toList]
    refine wpAnyH_take (i := 35) (oi := { dst := some 71, op := Op.build 37 #[], type := 37, pos := "outright.go:16", after := #[{ on := 33, ground := Ground.guard }], guard := some (33, false) }) (v := ?_) rfl (by kernel_rfl) (by kernel_rfl) (by kernel_rfl) (fun _ _ _ h => h) (Or.inl ⟨by rfl, ?_⟩) hS8 ?_
    rotate_left
    · intro X hX
      obtain ⟨x0, x1, x2, x3⟩ := hX
      go_simp
      try with_reducible rfl
    simp only [Act.put, List.setIfInBounds_toArray, List.set_cons_zero, List.set_cons_succ, Array.toArray_toList]
    refine wpAnyH_ready (rs := [34]) (by kernel_rfl) (by simp) (AllReadyH.cons (o := { dst := some 70, op := Op.call { callee := Callee.value (Operand.func 65), args := #[], argTypes := #[] }, type := 33, pos := "outright.go:16", after := #[{ on := 33, ground := Ground.chain }, { on := 33, ground := Ground.guard }], guard := some (33, false) }) rfl (fun K hK => ?_) AllReadyH.nil)
    go_simp
    refine (six_new _).mono ?_
    rintro e x9 ⟨d9, rfl, ld9, ha, hb⟩
    have hX9 := hX8.trans (hb.mono hX8.size)
    have HA9 := Lib.hid ha
    clear ha hb ld9
    go_wp2_with fail
    refine hK.out _ _ (keepS4 hX9 HS0.out) (fun hS9 => ?_)
    clear hS8 hK K
    refine wpAnyH_ready (rs := [36]) (by kernel_rfl) (by simp) (AllReadyH.cons (o := { dst := some 72, op := Op.call { callee := Callee.value (Operand.func 24), args := #[Operand.tmp 70, Operand.const (Value.int IntKind.i64 0), Operand.tmp 71], argTypes := #[33, 3, 37] }, type := 4, pos := "outright.go:16", after := #[{ on := 34, ground := Ground.data }, { on := 35, ground := Ground.data }, { on := 34, ground := Ground.chain }, { on := 33, ground := Ground.guard }], guard := some (33, false) }) rfl (fun K hK => ?_) AllReadyH.nil)
    go_simp
    have hcu := proveCut_any _ 6 6 2 1 0 sixL (.slice none 0 0) (.slice none 0 0) [] [] x9 (by omega) rfl (six_angs0 HA9.out) (IntsAt.nil _) (IntsAt.nil _) (by simp) (by simp)
    rw [names_cute] at hcu
    have HCU := Lib.hid hcu
    clear hcu
    refine HCU.out.mono ?_
    rintro e x10 ⟨rfl, hb⟩
    have hX10 := hX9.trans (hb.mono hX9.size)
    clear hb HCU HA9 hX9
    go_wp2_with fail
    refine hK.out _ _ (keepS4 hX10 HS0.out) (fun hS10 => ?_)
    clear hS9 hK K
    refine wpAnyH_take (i := 37) (oi := { dst := some 73, op := Op.pick (Operand.tmp 69) (Operand.const (Value.bool true)) (Operand.tmp 72), type := 4, pos := "outright.go:16", after := #[{ on := 33, ground := Ground.data }, { on := 36, ground := Ground.data }], guard := none }) (v := ?_) rfl (by kernel_rfl) (by kernel_rfl) (by kernel_rfl) (fun _ _ _ h => h) (Or.inl ⟨by rfl, ?_⟩) hS10 ?_
    rotate_left
    · intro X hX
      obtain ⟨x0, x1, x2, x3⟩ := hX
      go_simp
      try with_reducible rfl
    simp only [Act.put, List.setIfInBounds_toArray, List.set_cons_zero, List.set_cons_succ, Array.toArray_toList]
    refine wpAnyH_take (i := 38) (oi := { dst := some 74, op := Op.move (Operand.tmp 73), type := 4, pos := "outright.go:16", after := #[{ on := 37, ground := Ground.data }, { on := 36, ground := Ground.chain }], guard := none }) (v := ?_) rfl (by kernel_rfl) (by kernel_rfl) (by kernel_rfl) (fun _ _ _ h => h) (Or.inl ⟨by rfl, ?_⟩) hS10 ?_
    rotate_left
    · intro X hX
      obtain ⟨x0, x1, x2, x3⟩ := hX
      go_simp
      try with_reducible rfl
    simp only [Act.put, List.setIfInBounds_toArray, List.set_cons_zero, List.set_cons_succ, Array.toArray_toList]
    refine wpAnyH_ready (rs := [39, 40]) (by kernel_rfl) (by simp) (AllReadyH.cons (o := { dst := some 75, op := Op.call { callee := Callee.value (Operand.func 65), args := #[], argTypes := #[] }, type := 33, pos := "outright.go:16", after := #[{ on := 38, ground := Ground.chain }, { on := 38, ground := Ground.guard }], guard := some (38, false) }) rfl (fun K hK => ?_) (AllReadyH.cons (o := { dst := some 76, op := Op.buildSlice 25 6 #[(0, Operand.const (Value.int IntKind.i64 9)), (1, Operand.const (Value.int IntKind.i64 11)), (2, Operand.const (Value.int IntKind.i64 16)), (3, Operand.const (Value.int IntKind.i64 18)), (4, Operand.const (Value.int IntKind.i64 38)), (5, Operand.const (Value.int IntKind.i64 18))], type := 25, pos := "outright.go:16", after := #[{ on := 38, ground := Ground.guard }], guard := some (38, false) }) rfl (fun K hK => ?_) AllReadyH.nil))
    · skip
      go_simp
      refine (six_new _).mono ?_
      rintro e x11 ⟨d11, rfl, ld11, ha, hb⟩
      have hX11 := hX10.trans (hb.mono hX10.size)
      have HA11 := Lib.hid ha
      clear ha hb ld11
      go_wp2_with fail
      refine hK.out _ _ (keepS4 hX11 HS0.out) (fun hS11 => ?_)
      clear hS10 hK K
      refine wpAnyH_ready (rs := [40]) (by kernel_rfl) (by simp) (AllReadyH.cons (o := { dst := some 76, op := Op.buildSlice 25 6 #[(0, Operand.const (Value.int IntKind.i64 9)), (1, Operand.const (Value.int IntKind.i64 11)), (2, Operand.const (Value.int IntKind.i64 16)), (3, Operand.const (Value.int IntKind.i64 18)), (4, Operand.const (Value.int IntKind.i64 38)), (5, Operand.const (Value.int IntKind.i64 18))], type := 25, pos := "outright.go:16", after := #[{ on := 38, ground := Ground.guard }], guard := some (38, false) }) rfl (fun K hK => ?_) AllReadyH.nil)
      go_simp
      have hal : Below x11.heap.size x11 (x11.alloc (.cells #[.int .i64 9, .int .i64 11, .int .i64 16, .int .i64 18, .int .i64 38, .int .i64 18] 3)) := (Below.refl _ _).alloc (Nat.le_refl _) _
      have hXa := hX11.trans (hal.mono hX11.size)
      refine hK.out _ _ (keepS4 hXa HS0.out) (fun hS12 => ?_)
      clear hS11 hK K
      refine wpAnyH_ready (rs := [41]) (by kernel_rfl) (by simp) (AllReadyH.cons (o := { dst := some 77, op := Op.call { callee := Callee.value (Operand.func 21), args := #[Operand.tmp 75, Operand.const (Value.int IntKind.i64 2), Operand.tmp 76], argTypes := #[33, 3, 25] }, type := 4, pos := "outright.go:16", after := #[{ on := 39, ground := Ground.data }, { on := 40, ground := Ground.data }, { on := 39, ground := Ground.chain }, { on := 38, ground := Ground.guard }], guard := some (38, false) }) rfl (fun K hK => ?_) AllReadyH.nil)
      go_simp
      have htu := proveTruth_any _ 6 6 2 1 2 sixL _ [9, 11, 16, 18, 38, 18] _ (by omega) rfl ((six_angs0 HA11.out).keep hal (Nat.le_refl _)) (ints_new x11 [9, 11, 16, 18, 38, 18])
      rw [names_tr1] at htu
      have HTU := Lib.hid htu
      clear htu
      refine HTU.out.mono ?_
      rintro e x12 ⟨rfl, hb⟩
      have hX12 := hXa.trans (hb.mono hXa.size)
      clear hb HTU HA11 hX11 hal hXa
      go_wp2_with fail
      refine hK.out _ _ (keepS4 hX12 HS0.out) (fun hS13 => ?_)
      clear hS12 hK K
      refine wpAnyH_take (i := 42) (oi := { dst := some 78, op := Op.unOp UnOp.not 4 (Operand.tmp 77), type := 4, pos := "outright.go:16", after := #[{ on := 41, ground := Ground.data }, { on := 38, ground := Ground.guard }], guard := some (38, false) }) (v := ?_) rfl (by kernel_rfl) (by kernel_rfl) (by kernel_rfl) (fun _ _ _ h => h) (Or.inl ⟨by rfl, ?_⟩) hS13 ?_
      rotate_left
      · intro X hX
        obtain ⟨x0, x1, x2, x3⟩ := hX
        go_simp
        try with_reducible rfl
      simp only [Act.put, List.setIfInBounds_toArray, List.set_cons_zero, List.set_cons_succ, Array.toArray_toList]
      refine wpAnyH_take (i := 43) (oi := { dst := some 79, op := Op.pick (Operand.tmp 74) (Operand.const (Value.bool true)) (Operand.tmp 78), type := 4, pos := "outright.go:16", after := #[{ on := 38, ground := Ground.data }, { on := 42, ground := Ground.data }], guard := none }) (v := ?_) rfl (by kernel_rfl) (by kernel_rfl) (by kernel_rfl) (fun _ _ _ h => h) (Or.inl ⟨by rfl, ?_⟩) hS13 ?_
      rotate_left
      · intro X hX
        obtain ⟨x0, x1, x2, x3⟩ := hX
        go_simp
        try with_reducible rfl
      simp only [Act.put, List.setIfInBounds_toArray, List.set_cons_zero, List.set_cons_succ, Array.toArray_toList]
      refine wpAnyH_take (i := 44) (oi := { dst := some 80, op := Op.move (Operand.tmp 79), type := 4, pos := "outright.go:16", after := #[{ on := 43, ground := Ground.data }, { on := 41, ground := Ground.chain }], guard := none }) (v := ?_) rfl (by kernel_rfl) (by kernel_rfl) (by kernel_rfl) (fun _ _ _ h => h) (Or.inl ⟨by rfl, ?_⟩) hS13 ?_
      rotate_left
      · intro X hX
        obtain ⟨x0, x1, x2, x3⟩ := hX
        go_simp
        try with_reducible rfl
      simp only [Act.put, List.setIfInBounds_toArray, List.set_cons_zero, List.set_cons_succ, Array.toArray_toList]
      refine wpAnyH_ready (rs := [45, 46]) (by kernel_rfl) (by simp) (AllReadyH.cons (o := { dst := some 81, op := Op.call { callee := Callee.value (Operand.func 65), args := #[], argTypes := #[] }, type := 33, pos := "outright.go:16", after := #[{ on := 44, ground := Ground.chain }, { on := 44, ground := Ground.guard }], guard := some (44, false) }) rfl (fun K hK => ?_) (AllReadyH.cons (o := { dst := some 82, op := Op.buildSlice 25 6 #[(0, Operand.const (Value.int IntKind.i64 9)), (1, Operand.const (Value.int IntKind.i64 11)), (2, Operand.const (Value.int IntKind.i64 16)), (3, Operand.const (Value.int IntKind.i64 18)), (4, Operand.const (Value.int IntKind.i64 37)), (5, Operand.const (Value.int IntKind.i64 18))], type := 25, pos := "outright.go:16", after := #[{ on := 44, ground := Ground.guard }], guard := some (44, false) }) rfl (fun K hK => ?_) AllReadyH.nil))
      · skip
        go_simp
        refine (six_new _).mono ?_
        rintro e x13 ⟨d13, rfl, ld13, ha, hb⟩
        have hX13 := hX12.trans (hb.mono hX12.size)
        have HA13 := Lib.hid ha
        clear ha hb ld13
        go_wp2_with fail
        refine hK.out _ _ (keepS4 hX13 HS0.out) (fun hS14 => ?_)
        clear hS13 hK K
        refine wpAnyH_ready (rs := [46]) (by kernel_rfl) (by simp) (AllReadyH.cons (o := { dst := some 82, op := Op.buildSlice 25 6 #[(0, Operand.const (Value.int IntKind.i64 9)), (1, Operand.const (Value.int IntKind.i64 11)), (2, Operand.const (Value.int IntKind.i64 16)), (3, Operand.const (Value.int IntKind.i64 18)), (4, Operand.const (Value.int IntKind.i64 37)), (5, Operand.const (Value.int IntKind.i64 18))], type := 25, pos := "outright.go:16", after := #[{ on := 44, ground := Ground.guard }], guard := some (44, false) }) rfl (fun K hK => ?_) AllReadyH.nil)
        go_simp
        have hal : Below x13.heap.size x13 (x13.alloc (.cells #[.int .i64 9, .int .i64 11, .int .i64 16, .int .i64 18, .int .i64 37, .int .i64 18] 3)) := (Below.refl _ _).alloc (Nat.le_refl _) _
        have hXa := hX13.trans (hal.mono hX13.size)
        refine hK.out _ _ (keepS4 hXa HS0.out) (fun hS15 => ?_)
        clear hS14 hK K
        refine wpAnyH_ready (rs := [47]) (by kernel_rfl) (by simp) (AllReadyH.cons (o := { dst := some 83, op := Op.call { callee := Callee.value (Operand.func 21), args := #[Operand.tmp 81, Operand.const (Value.int IntKind.i64 2), Operand.tmp 82], argTypes := #[33, 3, 25] }, type := 4, pos := "outright.go:16", after := #[{ on := 45, ground := Ground.data }, { on := 46, ground := Ground.data }, { on := 45, ground := Ground.chain }, { on := 44, ground := Ground.guard }], guard := some (44, false) }) rfl (fun K hK => ?_) AllReadyH.nil)
        go_simp
        have htu := proveTruth_any _ 6 6 2 1 2 sixL _ [9, 11, 16, 18, 37, 18] _ (by omega) rfl ((six_angs0 HA13.out).keep hal (Nat.le_refl _)) (ints_new x13 [9, 11, 16, 18, 37, 18])
        rw [names_tr2] at htu
        have HTU := Lib.hid htu
        clear htu
        refine HTU.out.mono ?_
        rintro e x14 ⟨rfl, hb⟩
        have hX14 := hXa.trans (hb.mono hXa.size)
        clear hb HTU HA13 hX13 hal hXa
        go_wp2_with fail
        refine hK.out _ _ (keepS4 hX14 HS0.out) (fun hS16 => ?_)
        clear hS15 hK K
        refine wpAnyH_take (i := 48) (oi := { dst := some 84, op := Op.pick (Operand.tmp 80) (Operand.const (Value.bool true)) (Operand.tmp 83), type := 4, pos := "outright.go:16", after := #[{ on := 44, ground := Ground.data }, { on := 47, ground := Ground.data }], guard := none }) (v := ?_) rfl (by kernel_rfl) (by kernel_rfl) (by kernel_rfl) (fun _ _ _ h => h) (Or.inl ⟨by rfl, ?_⟩) hS16 ?_
        rotate_left
        · intro X hX
          obtain ⟨x0, x1, x2, x3⟩ := hX
          go_simp
          try with_reducible rfl
        simp only [Act.put, List.setIfInBounds_toArray, List.set_cons_zero, List.set_cons_succ, Array.toArray_toList]
        refine wpAnyH_done (by kernel_rfl) ?_ _
        clear hS16
        have hfin := HB7.out.trans (hX14.mono HB7.out.size)
        go_wp2
        go_meet
        case rel => exact ⟨rfl, hfin⟩
      · skip
        go_simp
        have hal : Below x12.heap.size x12 (x12.alloc (.cells #[.int .i64 9, .int .i64 11, .int .i64 16, .int .i64 18, .int .i64 37, .int .i64 18] 3)) := (Below.refl _ _).alloc (Nat.le_refl _) _
        have hXa := hX12.trans (hal.mono hX12.size)
        refine hK.out _ _ (keepS4 hXa HS0.out) (fun hS14 => ?_)
        clear hS13 hK K
        refine wpAnyH_ready (rs := [45]) (by kernel_rfl) (by simp) (AllReadyH.cons (o := { dst := some 81, op := Op.call { callee := Callee.value (Operand.func 65), args := #[], argTypes := #[] }, type := 33, pos := "outright.go:16", after := #[{ on := 44, ground := Ground.chain }, { on := 44, ground := Ground.guard }], guard := some (44, false) }) rfl (fun K hK => ?_) AllReadyH.nil)
        go_simp
        refine (six_new _).mono ?_
        rintro e x13 ⟨d13, rfl, ld13, ha, hb⟩
        have hX13 := hXa.trans (hb.mono hXa.size)
        have HA13 := Lib.hid ha
        have HIN := Lib.hid ((ints_new x12 [9, 11, 16, 18, 37, 18]).keep hb (Nat.le_refl _))
        clear ha hb ld13 hal hXa
        go_wp2_with fail
        refine hK.out _ _ (keepS4 hX13 HS0.out) (fun hS15 => ?_)
        clear hS14 hK K
        refine wpAnyH_ready (rs := [47]) (by kernel_rfl) (by simp) (AllReadyH.cons (o := { dst := some 83, op := Op.call { callee := Callee.value (Operand.func 21), args := #[Operand.tmp 81, Operand.const (Value.int IntKind.i64 2), Operand.tmp 82], argTypes := #[33, 3, 25] }, type := 4, pos := "outright.go:16", after := #[{ on := 45, ground := Ground.data }, { on := 46, ground := Ground.data }, { on := 45, ground := Ground.chain }, { on := 44, ground := Ground.guard }], guard := some (44, false) }) rfl (fun K hK => ?_) AllReadyH.nil)
        go_simp
        have htu := proveTruth_any _ 6 6 2 1 2 sixL _ [9, 11, 16, 18, 37, 18] _ (by omega) rfl (six_angs0 HA13.out) HIN.out
        rw [names_tr2] at htu
        have HTU := Lib.hid htu
        clear htu HIN
        refine HTU.out.mono ?_
        rintro e x14 ⟨rfl, hb⟩
        have hX14 := hX13.trans (hb.mono hX13.size)
        clear hb HTU HA13 hX13
        go_wp2_with fail
        refine hK.out _ _ (keepS4 hX14 HS0.out) (fun hS16 => ?_)
        clear hS15 hK K
        refine wpAnyH_take (i := 48) (oi := { dst := some 84, op := Op.pick (Operand.tmp 80) (Operand.const (Value.bool true)) (Operand.tmp 83), type := 4, pos := "outright.go:16", after := #[{ on := 44, ground := Ground.data }, { on := 47, ground := Ground.data }], guard := none }) (v := ?_) rfl (by kernel_rfl) (by kernel_rfl) (by kernel_rfl) (fun _ _ _ h => h) (Or.inl ⟨by rfl, ?_⟩) hS16 ?_
        rotate_left
        · intro X hX
          obtain ⟨x0, x1, x2, x3⟩ := hX
          go_simp
          try with_reducible rfl
        simp only [Act.put, List.setIfInBounds_toArray, List.set_cons_zero, List.set_cons_succ, Array.toArray_toList]
        refine wpAnyH_done (by kernel_rfl) ?_ _
        clear hS16
        have hfin := HB7.out.trans (hX14.mono HB7.out.size)
        go_wp2
        go_meet
        case rel => exact ⟨rfl, hfin⟩
    · skip
      go_simp
      have hal : Below x10.heap.size x10 (x10.alloc (.cells #[.int .i64 9, .int .i64 11, .int .i64 16, .int .i64 18, .int .i64 38, .int .i64 18] 3)) := (Below.refl _ _).alloc (Nat.le_refl _) _
      have hXa := hX10.trans (hal.mono hX10.size)
      refine hK.out _ _ (keepS4 hXa HS0.out) (fun hS11 => ?_)
      clear hS10 hK K
      refine wpAnyH_ready (rs := [39]) (by kernel_rfl) (by simp) (AllReadyH.cons (o := { dst := some 75, op := Op.call { callee := Callee.value (Operand.func 65), args := #[], argTypes := #[] }, type := 33, pos := "outright.go:16", after := #[{ on := 38, ground := Ground.chain }, { on := 38, ground := Ground.guard }], guard := some (38, false) }) rfl (fun K hK => ?_) AllReadyH.nil)
      go_simp
      refine (six_new _).mono ?_
      rintro e x11 ⟨d11, rfl, ld11, ha, hb⟩
      have hX11 := hXa.trans (hb.mono hXa.size)
      have HA11 := Lib.hid ha
      have HIN := Lib.hid ((ints_new x10 [9, 11, 16, 18, 38, 18]).keep hb (Nat.le_refl _))
      clear ha hb ld11 hal hXa
      go_wp2_with fail
      refine hK.out _ _ (keepS4 hX11 HS0.out) (fun hS12 => ?_)
      clear hS11 hK K
      refine wpAnyH_ready (rs := [41]) (by kernel_rfl) (by simp) (AllReadyH.cons (o := { dst := some 77, op := Op.call { callee := Callee.value (Operand.func 21), args := #[Operand.tmp 75, Operand.const (Value.int IntKind.i64 2), Operand.tmp 76], argTypes := #[33, 3, 25] }, type := 4, pos := "outright.go:16", after := #[{ on := 39, ground := Ground.data }, { on := 40, ground := Ground.data }, { on := 39, ground := Ground.chain }, { on := 38, ground := Ground.guard }], guard := some (38, false) }) rfl (fun K hK => ?_) AllReadyH.nil)
      go_simp
      have htu := proveTruth_any _ 6 6 2 1 2 sixL _ [9, 11, 16, 18, 38, 18] _ (by omega) rfl (six_angs0 HA11.out) HIN.out
      rw [names_tr1] at htu
      have HTU := Lib.hid htu
      clear htu HIN
      refine HTU.out.mono ?_
      rintro e x12 ⟨rfl, hb⟩
      have hX12 := hX11.trans (hb.mono hX11.size)
      clear hb HTU HA11 hX11
      go_wp2_with fail
      refine hK.out _ _ (keepS4 hX12 HS0.out) (fun hS13 => ?_)
      clear hS12 hK K
      refine wpAnyH_take (i := 42) (oi := { dst := some 78, op := Op.unOp UnOp.not 4 (Operand.tmp 77), type := 4, pos := "outright.go:16", after := #[{ on := 41, ground := Ground.data }, { on := 38, ground := Ground.guard }], guard := some (38, false) }) (v := ?_) rfl (by kernel_rfl) (by kernel_rfl) (by kernel_rfl) (fun _ _ _ h => h) (Or.inl ⟨by rfl, ?_⟩) hS13 ?_
      rotate_left
      · intro X hX
        obtain ⟨x0, x1, x2, x3⟩ := hX
        go_simp
        try with_reducible rfl
      simp only [Act.put, List.setIfInBounds_toArray, List.set_cons_zero, List.set_cons_succ, Array.toArray_toList]
      refine wpAnyH_take (i := 43) (oi := { dst := some 79, op := Op.pick (Operand.tmp 74) (Operand.const (Value.bool true)) (Operand.tmp 78), type := 4, pos := "outright.go:16", after := #[{ on := 38, ground := Ground.data }, { on := 42, ground := Ground.data }], guard := none }) (v := ?_) rfl (by kernel_rfl) (by kernel_rfl) (by kernel_rfl) (fun _ _ _ h => h) (Or.inl ⟨by rfl, ?_⟩) hS13 ?_
      rotate_left
      · intro X hX
        obtain ⟨x0, x1, x2, x3⟩ := hX
        go_simp
        try with_reducible rfl
      simp only [Act.put, List.setIfInBounds_toArray, List.set_cons_zero, List.set_cons_succ, Array.toArray_toList]
      refine wpAnyH_take (i := 44) (oi := { dst := some 80, op := Op.move (Operand.tmp 79), type := 4, pos := "outright.go:16", after := #[{ on := 43, ground := Ground.data }, { on := 41, ground := Ground.chain }], guard := none }) (v := ?_) rfl (by kernel_rfl) (by kernel_rfl) (by kernel_rfl) (fun _ _ _ h => h) (Or.inl ⟨by rfl, ?_⟩) hS13 ?_
      rotate_left
      · intro X hX
        obtain ⟨x0, x1, x2, x3⟩ := hX
        go_simp
        try with_reducible rfl
      simp only [Act.put, List.setIfInBounds_toArray, List.set_cons_zero, List.set_cons_succ, Array.toArray_toList]
      refine wpAnyH_ready (rs := [45, 46]) (by kernel_rfl) (by simp) (AllReadyH.cons (o := { dst := some 81, op := Op.call { callee := Callee.value (Operand.func 65), args := #[], argTypes := #[] }, type := 33, pos := "outright.go:16", after := #[{ on := 44, ground := Ground.chain }, { on := 44, ground := Ground.guard }], guard := some (44, false) }) rfl (fun K hK => ?_) (AllReadyH.cons (o := { dst := some 82, op := Op.buildSlice 25 6 #[(0, Operand.const (Value.int IntKind.i64 9)), (1, Operand.const (Value.int IntKind.i64 11)), (2, Operand.const (Value.int IntKind.i64 16)), (3, Operand.const (Value.int IntKind.i64 18)), (4, Operand.const (Value.int IntKind.i64 37)), (5, Operand.const (Value.int IntKind.i64 18))], type := 25, pos := "outright.go:16", after := #[{ on := 44, ground := Ground.guard }], guard := some (44, false) }) rfl (fun K hK => ?_) AllReadyH.nil))
      · skip
        go_simp
        refine (six_new _).mono ?_
        rintro e x13 ⟨d13, rfl, ld13, ha, hb⟩
        have hX13 := hX12.trans (hb.mono hX12.size)
        have HA13 := Lib.hid ha
        clear ha hb ld13
        go_wp2_with fail
        refine hK.out _ _ (keepS4 hX13 HS0.out) (fun hS14 => ?_)
        clear hS13 hK K
        refine wpAnyH_ready (rs := [46]) (by kernel_rfl) (by simp) (AllReadyH.cons (o := { dst := some 82, op := Op.buildSlice 25 6 #[(0, Operand.const (Value.int IntKind.i64 9)), (1, Operand.const (Value.int IntKind.i64 11)), (2, Operand.const (Value.int IntKind.i64 16)), (3, Operand.const (Value.int IntKind.i64 18)), (4, Operand.const (Value.int IntKind.i64 37)), (5, Operand.const (Value.int IntKind.i64 18))], type := 25, pos := "outright.go:16", after := #[{ on := 44, ground := Ground.guard }], guard := some (44, false) }) rfl (fun K hK => ?_) AllReadyH.nil)
        go_simp
        have hal : Below x13.heap.size x13 (x13.alloc (.cells #[.int .i64 9, .int .i64 11, .int .i64 16, .int .i64 18, .int .i64 37, .int .i64 18] 3)) := (Below.refl _ _).alloc (Nat.le_refl _) _
        have hXa := hX13.trans (hal.mono hX13.size)
        refine hK.out _ _ (keepS4 hXa HS0.out) (fun hS15 => ?_)
        clear hS14 hK K
        refine wpAnyH_ready (rs := [47]) (by kernel_rfl) (by simp) (AllReadyH.cons (o := { dst := some 83, op := Op.call { callee := Callee.value (Operand.func 21), args := #[Operand.tmp 81, Operand.const (Value.int IntKind.i64 2), Operand.tmp 82], argTypes := #[33, 3, 25] }, type := 4, pos := "outright.go:16", after := #[{ on := 45, ground := Ground.data }, { on := 46, ground := Ground.data }, { on := 45, ground := Ground.chain }, { on := 44, ground := Ground.guard }], guard := some (44, false) }) rfl (fun K hK => ?_) AllReadyH.nil)
        go_simp
        have htu := proveTruth_any _ 6 6 2 1 2 sixL _ [9, 11, 16, 18, 37, 18] _ (by omega) rfl ((six_angs0 HA13.out).keep hal (Nat.le_refl _)) (ints_new x13 [9, 11, 16, 18, 37, 18])
        rw [names_tr2] at htu
        have HTU := Lib.hid htu
        clear htu
        refine HTU.out.mono ?_
        rintro e x14 ⟨rfl, hb⟩
        have hX14 := hXa.trans (hb.mono hXa.size)
        clear hb HTU HA13 hX13 hal hXa
        go_wp2_with fail
        refine hK.out _ _ (keepS4 hX14 HS0.out) (fun hS16 => ?_)
        clear hS15 hK K
        refine wpAnyH_take (i := 48) (oi := { dst := some 84, op := Op.pick (Operand.tmp 80) (Operand.const (Value.bool true)) (Operand.tmp 83), type := 4, pos := "outright.go:16", after := #[{ on := 44, ground := Ground.data }, { on := 47, ground := Ground.data }], guard := none }) (v := ?_) rfl (by kernel_rfl) (by kernel_rfl) (by kernel_rfl) (fun _ _ _ h => h) (Or.inl ⟨by rfl, ?_⟩) hS16 ?_
        rotate_left
        · intro X hX
          obtain ⟨x0, x1, x2, x3⟩ := hX
          go_simp
          try with_reducible rfl
        simp only [Act.put, List.setIfInBounds_toArray, List.set_cons_zero, List.set_cons_succ, Array.toArray_toList]
        refine wpAnyH_done (by kernel_rfl) ?_ _
        clear hS16
        have hfin := HB7.out.trans (hX14.mono HB7.out.size)
        go_wp2
        go_meet
        case rel => exact ⟨rfl, hfin⟩
      · skip
        go_simp
        have hal : Below x12.heap.size x12 (x12.alloc (.cells #[.int .i64 9, .int .i64 11, .int .i64 16, .int .i64 18, .int .i64 37, .int .i64 18] 3)) := (Below.refl _ _).alloc (Nat.le_refl _) _
        have hXa := hX12.trans (hal.mono hX12.size)
        refine hK.out _ _ (keepS4 hXa HS0.out) (fun hS14 => ?_)
        clear hS13 hK K
        refine wpAnyH_ready (rs := [45]) (by kernel_rfl) (by simp) (AllReadyH.cons (o := { dst := some 81, op := Op.call { callee := Callee.value (Operand.func 65), args := #[], argTypes := #[] }, type := 33, pos := "outright.go:16", after := #[{ on := 44, ground := Ground.chain }, { on := 44, ground := Ground.guard }], guard := some (44, false) }) rfl (fun K hK => ?_) AllReadyH.nil)
        go_simp
        refine (six_new _).mono ?_
        rintro e x13 ⟨d13, rfl, ld13, ha, hb⟩
        have hX13 := hXa.trans (hb.mono hXa.size)
        have HA13 := Lib.hid ha
        have HIN := Lib.hid ((ints_new x12 [9, 11, 16, 18, 37, 18]).keep hb (Nat.le_refl _))
        clear ha hb ld13 hal hXa
        go_wp2_with fail
        refine hK.out _ _ (keepS4 hX13 HS0.out) (fun hS15 => ?_)
        clear hS14 hK K
        refine wpAnyH_ready (rs := [47]) (by kernel_rfl) (by simp) (AllReadyH.cons (o := { dst := some 83, op := Op.call { callee := Callee.value (Operand.func 21), args := #[Operand.tmp 81, Operand.const (Value.int IntKind.i64 2), Operand.tmp 82], argTypes := #[33, 3, 25] }, type := 4, pos := "outright.go:16", after := #[{ on := 45, ground := Ground.data }, { on := 46, ground := Ground.data }, { on := 45, ground := Ground.chain }, { on := 44, ground := Ground.guard }], guard := some (44, false) }) rfl (fun K hK => ?_) AllReadyH.nil)
        go_simp
        have htu := proveTruth_any _ 6 6 2 1 2 sixL _ [9, 11, 16, 18, 37, 18] _ (by omega) rfl (six_angs0 HA13.out) HIN.out
        rw [names_tr2] at htu
        have HTU := Lib.hid htu
        clear htu HIN
        refine HTU.out.mono ?_
        rintro e x14 ⟨rfl, hb⟩
        have hX14 := hX13.trans (hb.mono hX13.size)
        clear hb HTU HA13 hX13
        go_wp2_with fail
        refine hK.out _ _ (keepS4 hX14 HS0.out) (fun hS16 => ?_)
        clear hS15 hK K
        refine wpAnyH_take (i := 48) (oi := { dst := some 84, op := Op.pick (Operand.tmp 80) (Operand.const (Value.bool true)) (Operand.tmp 83), type := 4, pos := "outright.go:16", after := #[{ on := 44, ground := Ground.data }, { on := 47, ground := Ground.data }], guard := none }) (v := ?_) rfl (by kernel_rfl) (by kernel_rfl) (by kernel_rfl) (fun _ _ _ h => h) (Or.inl ⟨by rfl, ?_⟩) hS16 ?_
        rotate_left
        · intro X hX
          obtain ⟨x0, x1, x2, x3⟩ := hX
          go_simp
          try with_reducible rfl
        simp only [Act.put, List.setIfInBounds_toArray, List.set_cons_zero, List.set_cons_succ, Array.toArray_toList]
        refine wpAnyH_done (by kernel_rfl) ?_ _
        clear hS16
        have hfin := HB7.out.trans (hX14.mono HB7.out.size)
        go_wp2
        go_meet
        case rel => exact ⟨rfl, hfin⟩
  case rest =>
    obtain ⟨rfl, hbw⟩ := hcut
    have HB8 := Lib.hid hbw
    clear hbw
    clear HS0 HC1 HC2 HPR
    clear HB7 FT7 FC7 FL7 NB37 NBl7 NB57
    obtain ⟨w8, rfl⟩ : ∃ x : World, x = wc := ⟨_, rfl⟩
    go_wp2_with fail
    refine (six_new w8).mono ?_
    rintro e w9 ⟨c1, rfl, lc1, ha, hb⟩
    have HB9 := Lib.hid (HB8.out.trans (hb.mono HB8.out.size))
    have Nc19 := Lib.hid ha
    have oc1 : w.heap.size ≤ c1 := by have := HB8.out.size; omega
    clear ha lc1
    clear hb HB8 
    have hsh := Lib.hid (show_no (cap := 6) (n := 6) (by omega) rfl (six_angs0 Nc19.out) sure_show)
    rw [names_sure1] at hsh
    clear Nc19
    go_wp2_with fail
    refine (hsh.out).mono ?_
    rintro e w10 ⟨rfl, hb⟩
    have HB10 := Lib.hid (HB9.out.trans (hb.mono HB9.out.size))
    clear hsh
    clear hb HB9 
    go_wp2_with fail
    refine (six_new w10).mono ?_
    rintro e w11 ⟨c2, rfl, lc2, ha, hb⟩
    have HB11 := Lib.hid (HB10.out.trans (hb.mono HB10.out.size))
    have Nc211 := Lib.hid ha
    have oc2 : w.heap.size ≤ c2 := by have := HB10.out.size; omega
    clear ha lc2
    clear hb HB10 
    have hbo := Lib.hid (bounds_no (cap := 6) (n := 6) (by omega) rfl (six_angs0 Nc211.out) (show sureL sixL 2 1 41 ≠ 0 by rw [names_sure41]; simp))
    rw [names_sure41] at hbo
    clear Nc211
    go_wp2_with fail
    refine (hbo.out).mono ?_
    rintro e w12 ⟨rfl, hb⟩
    have HB12 := Lib.hid (HB11.out.trans (hb.mono HB11.out.size))
    clear hbo
    clear hb HB11 
    go_wp2_with fail
    refine (six_new w12).mono ?_
    rintro e w13 ⟨c3, rfl, lc3, ha, hb⟩
    have HB13 := Lib.hid (HB12.out.trans (hb.mono HB12.out.size))
    have Nc313 := Lib.hid ha
    have oc3 : w.heap.size ≤ c3 := by have := HB12.out.size; omega
    clear ha lc3
    clear hb HB12 
    have hpv := Lib.hid (prove_no (cap := 6) (n := 6) (by omega) rfl (six_angs0 Nc313.out) (show sureL sixL 2 1 2 ≠ 9 by rw [six_sure2]; simp))
    rw [six_sure2] at hpv
    clear Nc313
    simp only [if_true] at hpv
    go_wp2_with fail
    refine (hpv.out).mono ?_
    rintro e w14 ⟨At2, Ac2, tc2, cc2, rfl, hb⟩
    have HB14 := Lib.hid (HB13.out.trans (hb.mono HB13.out.size))
    clear hpv
    clear hb HB13 
    go_wp2_with fail
    have hb : Below w14.heap.size w14 (w14.alloc (.cells #[.slice At2 0 tc2, .slice Ac2 0 cc2] 37)) := (Below.refl _ _).alloc (Nat.le_refl _) _
    have hn := Go.heap_alloc_new w14 (.cells #[.slice At2 0 tc2, .slice Ac2 0 cc2] 37)
    have hz : (w14.alloc (.cells #[.slice At2 0 tc2, .slice Ac2 0 cc2] 37)).heap.size = w14.heap.size + 1 := by simp
    obtain ⟨B6, hB6⟩ : ∃ x, w14.heap.size = x := ⟨_, rfl⟩
    have oB6 : w.heap.size ≤ B6 := by have := HB14.out.size; omega
    generalize w14.alloc (.cells #[.slice At2 0 tc2, .slice Ac2 0 cc2] 37) = w15 at hb hn hz ⊢
    rw [hB6] at hn hz
    rw [hB6]
    have zB6 := hz
    have HB15 := Lib.hid (HB14.out.trans (hb.mono HB14.out.size))
    have NB615 := Lib.hid hn
    clear hb hn hz hB6  HB14 
    clear zB6 oB6
    go_wp2_with fail
    refine (six_new w15).mono ?_
    rintro e w16 ⟨c4, rfl, lc4, ha, hb⟩
    have HB16 := Lib.hid (HB15.out.trans (hb.mono HB15.out.size))
    have NB616 := Lib.hid ((hb.block B6 (Array.getElem?_eq_some_iff.1 NB615.out).1).trans NB615.out)
    have Nc416 := Lib.hid ha
    have oB6c4 : B6 < c4 := by have := (Array.getElem?_eq_some_iff.1 NB615.out).1; omega
    have oc4 : w.heap.size ≤ c4 := by have := HB15.out.size; omega
    clear ha lc4
    clear hb HB15 NB615
    have hlv := Lib.hid (leave_no (cap := 6) (n := 6) (by omega) rfl (six_angs0 Nc416.out) (show askedL sixL 2 1 (-1) ≠ 0 by rw [names_asked_1]; simp))
    rw [names_asked_1] at hlv
    clear Nc416
    go_wp2_with fail
    refine (hlv.out).mono ?_
    rintro e w17 ⟨rfl, hb⟩
    have HB17 := Lib.hid (HB16.out.trans (hb.mono HB16.out.size))
    have NB617 := Lib.hid ((hb.block B6 (Array.getElem?_eq_some_iff.1 NB616.out).1).trans NB616.out)
    clear hlv
    clear hb HB16 NB616
    go_wp2_with fail
    refine (six_new w17).mono ?_
    rintro e w18 ⟨e0, rfl, le0, ha, hb⟩
    have HB18 := Lib.hid (HB17.out.trans (hb.mono HB17.out.size))
    have Ne018 := Lib.hid ha
    have oe0 : w.heap.size ≤ e0 := by have := HB17.out.size; omega
    clear ha le0
    clear hb HB17 
    go_wp2_with fail
    refine (six_new w18).mono ?_
    rintro e w19 ⟨e1, rfl, le1, ha, hb⟩
    have HB19 := Lib.hid (HB18.out.trans (hb.mono HB18.out.size))
    have Ne019 := Lib.hid ((hb.block e0 (Array.getElem?_eq_some_iff.1 Ne018.out).1).trans Ne018.out)
    have Ne119 := Lib.hid ha
    have oe0e1 : e0 < e1 := by have := (Array.getElem?_eq_some_iff.1 Ne018.out).1; omega
    have oe1 : w.heap.size ≤ e1 := by have := HB18.out.size; omega
    clear ha le1
    clear hb HB18 Ne018
    go_wp2_with fail
    refine (six_new w19).mono ?_
    rintro e w20 ⟨e2, rfl, le2, ha, hb⟩
    have HB20 := Lib.hid (HB19.out.trans (hb.mono HB19.out.size))
    have Ne020 := Lib.hid ((hb.block e0 (Array.getElem?_eq_some_iff.1 Ne019.out).1).trans Ne019.out)
    have Ne120 := Lib.hid ((hb.block e1 (Array.getElem?_eq_some_iff.1 Ne119.out).1).trans Ne119.out)
    have Ne220 := Lib.hid ha
    have oe0e2 : e0 < e2 := by have := (Array.getElem?_eq_some_iff.1 Ne019.out).1; omega
    have oe1e2 : e1 < e2 := by have := (Array.getElem?_eq_some_iff.1 Ne119.out).1; omega
    have oe2 : w.heap.size ≤ e2 := by have := HB19.out.size; omega
    clear ha le2
    clear hb HB19 Ne019 Ne119
    go_wp2_with fail
    refine (six_new w20).mono ?_
    rintro e w21 ⟨e3, rfl, le3, ha, hb⟩
    have HB21 := Lib.hid (HB20.out.trans (hb.mono HB20.out.size))
    have Ne021 := Lib.hid ((hb.block e0 (Array.getElem?_eq_some_iff.1 Ne020.out).1).trans Ne020.out)
    have Ne121 := Lib.hid ((hb.block e1 (Array.getElem?_eq_some_iff.1 Ne120.out).1).trans Ne120.out)
    have Ne221 := Lib.hid ((hb.block e2 (Array.getElem?_eq_some_iff.1 Ne220.out).1).trans Ne220.out)
    have Ne321 := Lib.hid ha
    have oe0e3 : e0 < e3 := by have := (Array.getElem?_eq_some_iff.1 Ne020.out).1; omega
    have oe1e3 : e1 < e3 := by have := (Array.getElem?_eq_some_iff.1 Ne120.out).1; omega
    have oe2e3 : e2 < e3 := by have := (Array.getElem?_eq_some_iff.1 Ne220.out).1; omega
    have oe3 : w.heap.size ≤ e3 := by have := HB20.out.size; omega
    clear ha le3
    clear hb HB20 Ne020 Ne120 Ne220
    go_wp2_with fail
    refine (six_new w21).mono ?_
    rintro e w22 ⟨e4, rfl, le4, ha, hb⟩
    have HB22 := Lib.hid (HB21.out.trans (hb.mono HB21.out.size))
    have Ne022 := Lib.hid ((hb.block e0 (Array.getElem?_eq_some_iff.1 Ne021.out).1).trans Ne021.out)
    have Ne122 := Lib.hid ((hb.block e1 (Array.getElem?_eq_some_iff.1 Ne121.out).1).trans Ne121.out)
    have Ne222 := Lib.hid ((hb.block e2 (Array.getElem?_eq_some_iff.1 Ne221.out).1).trans Ne221.out)
    have Ne322 := Lib.hid ((hb.block e3 (Array.getElem?_eq_some_iff.1 Ne321.out).1).trans Ne321.out)
    have Ne422 := Lib.hid ha
    have oe0e4 : e0 < e4 := by have := (Array.getElem?_eq_some_iff.1 Ne021.out).1; omega
    have oe1e4 : e1 < e4 := by have := (Array.getElem?_eq_some_iff.1 Ne121.out).1; omega
    have oe2e4 : e2 < e4 := by have := (Array.getElem?_eq_some_iff.1 Ne221.out).1; omega
    have oe3e4 : e3 < e4 := by have := (Array.getElem?_eq_some_iff.1 Ne321.out).1; omega
    have oe4 : w.heap.size ≤ e4 := by have := HB21.out.size; omega
    clear ha le4
    clear hb HB21 Ne021 Ne121 Ne221 Ne321
    go_wp2_with fail
    refine (six_new w22).mono ?_
    rintro e w23 ⟨e5, rfl, le5, ha, hb⟩
    have HB23 := Lib.hid (HB22.out.trans (hb.mono HB22.out.size))
    have Ne023 := Lib.hid ((hb.block e0 (Array.getElem?_eq_some_iff.1 Ne022.out).1).trans Ne022.out)
    have Ne123 := Lib.hid ((hb.block e1 (Array.getElem?_eq_some_iff.1 Ne122.out).1).trans Ne122.out)
    have Ne223 := Lib.hid ((hb.block e2 (Array.getElem?_eq_some_iff.1 Ne222.out).1).trans Ne222.out)
    have Ne323 := Lib.hid ((hb.block e3 (Array.getElem?_eq_some_iff.1 Ne322.out).1).trans Ne322.out)
    have Ne423 := Lib.hid ((hb.block e4 (Array.getElem?_eq_some_iff.1 Ne422.out).1).trans Ne422.out)
    have Ne523 := Lib.hid ha
    have oe0e5 : e0 < e5 := by have := (Array.getElem?_eq_some_iff.1 Ne022.out).1; omega
    have oe1e5 : e1 < e5 := by have := (Array.getElem?_eq_some_iff.1 Ne122.out).1; omega
    have oe2e5 : e2 < e5 := by have := (Array.getElem?_eq_some_iff.1 Ne222.out).1; omega
    have oe3e5 : e3 < e5 := by have := (Array.getElem?_eq_some_iff.1 Ne322.out).1; omega
    have oe4e5 : e4 < e5 := by have := (Array.getElem?_eq_some_iff.1 Ne422.out).1; omega
    have oe5 : w.heap.size ≤ e5 := by have := HB22.out.size; omega
    clear ha le5
    clear hb HB22 Ne022 Ne122 Ne222 Ne322 Ne422
    go_upto_region 11 with fail
    have hb : Below w23.heap.size w23 (w23.alloc (.cells #[.slice (some ⟨e0, 0, none⟩) 6 6, .int .i64 2, .int .i64 1] 33)) := (Below.refl _ _).alloc (Nat.le_refl _) _
    have hn := Go.heap_alloc_new w23 (.cells #[.slice (some ⟨e0, 0, none⟩) 6 6, .int .i64 2, .int .i64 1] 33)
    have hz : (w23.alloc (.cells #[.slice (some ⟨e0, 0, none⟩) 6 6, .int .i64 2, .int .i64 1] 33)).heap.size = w23.heap.size + 1 := by simp
    obtain ⟨G0, hG0⟩ : ∃ x, w23.heap.size = x := ⟨_, rfl⟩
    have oG0 : w.heap.size ≤ G0 := by have := HB23.out.size; omega
    have oe0G0 : e0 < G0 := by have := (Array.getElem?_eq_some_iff.1 Ne023.out).1; omega
    have oe1G0 : e1 < G0 := by have := (Array.getElem?_eq_some_iff.1 Ne123.out).1; omega
    have oe2G0 : e2 < G0 := by have := (Array.getElem?_eq_some_iff.1 Ne223.out).1; omega
    have oe3G0 : e3 < G0 := by have := (Array.getElem?_eq_some_iff.1 Ne323.out).1; omega
    have oe4G0 : e4 < G0 := by have := (Array.getElem?_eq_some_iff.1 Ne423.out).1; omega
    have oe5G0 : e5 < G0 := by have := (Array.getElem?_eq_some_iff.1 Ne523.out).1; omega
    generalize w23.alloc (.cells #[.slice (some ⟨e0, 0, none⟩) 6 6, .int .i64 2, .int .i64 1] 33) = w24 at hb hn hz ⊢
    rw [hG0] at hn hz
    rw [hG0]
    have zG0 := hz
    have HB24 := Lib.hid (HB23.out.trans (hb.mono HB23.out.size))
    have Ne024 := Lib.hid ((hb.block e0 (Array.getElem?_eq_some_iff.1 Ne023.out).1).trans Ne023.out)
    have Ne124 := Lib.hid ((hb.block e1 (Array.getElem?_eq_some_iff.1 Ne123.out).1).trans Ne123.out)
    have Ne224 := Lib.hid ((hb.block e2 (Array.getElem?_eq_some_iff.1 Ne223.out).1).trans Ne223.out)
    have Ne324 := Lib.hid ((hb.block e3 (Array.getElem?_eq_some_iff.1 Ne323.out).1).trans Ne323.out)
    have Ne424 := Lib.hid ((hb.block e4 (Array.getElem?_eq_some_iff.1 Ne423.out).1).trans Ne423.out)
    have Ne524 := Lib.hid ((hb.block e5 (Array.getElem?_eq_some_iff.1 Ne523.out).1).trans Ne523.out)
    have NG024 := Lib.hid hn
    clear hb hn hz hG0  HB23 Ne023 Ne123 Ne223 Ne323 Ne423 Ne523
    have hb : Below w24.heap.size w24 (w24.alloc (.cells #[.slice (some ⟨e1, 0, none⟩) 6 6, .int .i64 2, .int .i64 1] 33)) := (Below.refl _ _).alloc (Nat.le_refl _) _
    have hn := Go.heap_alloc_new w24 (.cells #[.slice (some ⟨e1, 0, none⟩) 6 6, .int .i64 2, .int .i64 1] 33)
    have hz : (w24.alloc (.cells #[.slice (some ⟨e1, 0, none⟩) 6 6, .int .i64 2, .int .i64 1] 33)).heap.size = w24.heap.size + 1 := by simp
    obtain ⟨G1, hG1'⟩ : ∃ x, G0 + 1 = x := ⟨_, rfl⟩
    have hG1 : w24.heap.size = G1 := zG0.trans hG1'
    have oG1 : w.heap.size ≤ G1 := by have := HB24.out.size; omega
    have oe0G1 : e0 < G1 := by have := (Array.getElem?_eq_some_iff.1 Ne024.out).1; omega
    have oe1G1 : e1 < G1 := by have := (Array.getElem?_eq_some_iff.1 Ne124.out).1; omega
    have oe2G1 : e2 < G1 := by have := (Array.getElem?_eq_some_iff.1 Ne224.out).1; omega
    have oe3G1 : e3 < G1 := by have := (Array.getElem?_eq_some_iff.1 Ne324.out).1; omega
    have oe4G1 : e4 < G1 := by have := (Array.getElem?_eq_some_iff.1 Ne424.out).1; omega
    have oe5G1 : e5 < G1 := by have := (Array.getElem?_eq_some_iff.1 Ne524.out).1; omega
    have oG0G1 : G0 < G1 := by have := (Array.getElem?_eq_some_iff.1 NG024.out).1; omega
    generalize w24.alloc (.cells #[.slice (some ⟨e1, 0, none⟩) 6 6, .int .i64 2, .int .i64 1] 33) = w25 at hb hn hz ⊢
    rw [hG1] at hn hz
    rw [hG1']
    have zG1 := hz
    have HB25 := Lib.hid (HB24.out.trans (hb.mono HB24.out.size))
    have Ne025 := Lib.hid ((hb.block e0 (Array.getElem?_eq_some_iff.1 Ne024.out).1).trans Ne024.out)
    have Ne125 := Lib.hid ((hb.block e1 (Array.getElem?_eq_some_iff.1 Ne124.out).1).trans Ne124.out)
    have Ne225 := Lib.hid ((hb.block e2 (Array.getElem?_eq_some_iff.1 Ne224.out).1).trans Ne224.out)
    have Ne325 := Lib.hid ((hb.block e3 (Array.getElem?_eq_some_iff.1 Ne324.out).1).trans Ne324.out)
    have Ne425 := Lib.hid ((hb.block e4 (Array.getElem?_eq_some_iff.1 Ne424.out).1).trans Ne424.out)
    have Ne525 := Lib.hid ((hb.block e5 (Array.getElem?_eq_some_iff.1 Ne524.out).1).trans Ne524.out)
    have NG025 := Lib.hid ((hb.block G0 (Array.getElem?_eq_some_iff.1 NG024.out).1).trans NG024.out)
    have NG125 := Lib.hid hn
    clear hb hn hz hG1 hG1' zG0 HB24 Ne024 Ne124 Ne224 Ne324 Ne424 Ne524 NG024
    have hb : Below w25.heap.size w25 (w25.alloc (.cells #[.slice (some ⟨e2, 0, none⟩) 6 6, .int .i64 2, .int .i64 1] 33)) := (Below.refl _ _).alloc (Nat.le_refl _) _
    have hn := Go.heap_alloc_new w25 (.cells #[.slice (some ⟨e2, 0, none⟩) 6 6, .int .i64 2, .int .i64 1] 33)
    have hz : (w25.alloc (.cells #[.slice (some ⟨e2, 0, none⟩) 6 6, .int .i64 2, .int .i64 1] 33)).heap.size = w25.heap.size + 1 := by simp
    obtain ⟨G2, hG2'⟩ : ∃ x, G1 + 1 = x := ⟨_, rfl⟩
    have hG2 : w25.heap.size = G2 := zG1.trans hG2'
    have oG2 : w.heap.size ≤ G2 := by have := HB25.out.size; omega
    have oe0G2 : e0 < G2 := by have := (Array.getElem?_eq_some_iff.1 Ne025.out).1; omega
    have oe1G2 : e1 < G2 := by have := (Array.getElem?_eq_some_iff.1 Ne125.out).1; omega
    have oe2G2 : e2 < G2 := by have := (Array.getElem?_eq_some_iff.1 Ne225.out).1; omega
    have oe3G2 : e3 < G2 := by have := (Array.getElem?_eq_some_iff.1 Ne325.out).1; omega
    have oe4G2 : e4 < G2 := by have := (Array.getElem?_eq_some_iff.1 Ne425.out).1; omega
    have oe5G2 : e5 < G2 := by have := (Array.getElem?_eq_some_iff.1 Ne525.out).1; omega
    have oG0G2 : G0 < G2 := by have := (Array.getElem?_eq_some_iff.1 NG025.out).1; omega
    have oG1G2 : G1 < G2 := by have := (Array.getElem?_eq_some_iff.1 NG125.out).1; omega
    generalize w25.alloc (.cells #[.slice (some ⟨e2, 0, none⟩) 6 6, .int .i64 2, .int .i64 1] 33) = w26 at hb hn hz ⊢
    rw [hG2] at hn hz
    rw [hG2']
    have zG2 := hz
    have HB26 := Lib.hid (HB25.out.trans (hb.mono HB25.out.size))
    have Ne026 := Lib.hid ((hb.block e0 (Array.getElem?_eq_some_iff.1 Ne025.out).1).trans Ne025.out)
    have Ne126 := Lib.hid ((hb.block e1 (Array.getElem?_eq_some_iff.1 Ne125.out).1).trans Ne125.out)
    have Ne226 := Lib.hid ((hb.block e2 (Array.getElem?_eq_some_iff.1 Ne225.out).1).trans Ne225.out)
    have Ne326 := Lib.hid ((hb.block e3 (Array.getElem?_eq_some_iff.1 Ne325.out).1).trans Ne325.out)
    have Ne426 := Lib.hid ((hb.block e4 (Array.getElem?_eq_some_iff.1 Ne425.out).1).trans Ne425.out)
    have Ne526 := Lib.hid ((hb.block e5 (Array.getElem?_eq_some_iff.1 Ne525.out).1).trans Ne525.out)
    have NG026 := Lib.hid ((hb.block G0 (Array.getElem?_eq_some_iff.1 NG025.out).1).trans NG025.out)
    have NG126 := Lib.hid ((hb.block G1 (Array.getElem?_eq_some_iff.1 NG125.out).1).trans NG125.out)
    have NG226 := Lib.hid hn
    clear hb hn hz hG2 hG2' zG1 HB25 Ne025 Ne125 Ne225 Ne325 Ne425 Ne525 NG025 NG125
    have hb : Below w26.heap.size w26 (w26.alloc (.cells #[.slice (some ⟨e3, 0, none⟩) 6 6, .int .i64 2, .int .i64 1] 33)) := (Below.refl _ _).alloc (Nat.le_refl _) _
    have hn := Go.heap_alloc_new w26 (.cells #[.slice (some ⟨e3, 0, none⟩) 6 6, .int .i64 2, .int .i64 1] 33)
    have hz : (w26.alloc (.cells #[.slice (some ⟨e3, 0, none⟩) 6 6, .int .i64 2, .int .i64 1] 33)).heap.size = w26.heap.size + 1 := by simp
    obtain ⟨G3, hG3'⟩ : ∃ x, G2 + 1 = x := ⟨_, rfl⟩
    have hG3 : w26.heap.size = G3 := zG2.trans hG3'
    have oG3 : w.heap.size ≤ G3 := by have := HB26.out.size; omega
    have oe0G3 : e0 < G3 := by have := (Array.getElem?_eq_some_iff.1 Ne026.out).1; omega
    have oe1G3 : e1 < G3 := by have := (Array.getElem?_eq_some_iff.1 Ne126.out).1; omega
    have oe2G3 : e2 < G3 := by have := (Array.getElem?_eq_some_iff.1 Ne226.out).1; omega
    have oe3G3 : e3 < G3 := by have := (Array.getElem?_eq_some_iff.1 Ne326.out).1; omega
    have oe4G3 : e4 < G3 := by have := (Array.getElem?_eq_some_iff.1 Ne426.out).1; omega
    have oe5G3 : e5 < G3 := by have := (Array.getElem?_eq_some_iff.1 Ne526.out).1; omega
    have oG0G3 : G0 < G3 := by have := (Array.getElem?_eq_some_iff.1 NG026.out).1; omega
    have oG1G3 : G1 < G3 := by have := (Array.getElem?_eq_some_iff.1 NG126.out).1; omega
    have oG2G3 : G2 < G3 := by have := (Array.getElem?_eq_some_iff.1 NG226.out).1; omega
    generalize w26.alloc (.cells #[.slice (some ⟨e3, 0, none⟩) 6 6, .int .i64 2, .int .i64 1] 33) = w27 at hb hn hz ⊢
    rw [hG3] at hn hz
    rw [hG3']
    have zG3 := hz
    have HB27 := Lib.hid (HB26.out.trans (hb.mono HB26.out.size))
    have Ne027 := Lib.hid ((hb.block e0 (Array.getElem?_eq_some_iff.1 Ne026.out).1).trans Ne026.out)
    have Ne127 := Lib.hid ((hb.block e1 (Array.getElem?_eq_some_iff.1 Ne126.out).1).trans Ne126.out)
    have Ne227 := Lib.hid ((hb.block e2 (Array.getElem?_eq_some_iff.1 Ne226.out).1).trans Ne226.out)
    have Ne327 := Lib.hid ((hb.block e3 (Array.getElem?_eq_some_iff.1 Ne326.out).1).trans Ne326.out)
    have Ne427 := Lib.hid ((hb.block e4 (Array.getElem?_eq_some_iff.1 Ne426.out).1).trans Ne426.out)
    have Ne527 := Lib.hid ((hb.block e5 (Array.getElem?_eq_some_iff.1 Ne526.out).1).trans Ne526.out)
    have NG027 := Lib.hid ((hb.block G0 (Array.getElem?_eq_some_iff.1 NG026.out).1).trans NG026.out)
    have NG127 := Lib.hid ((hb.block G1 (Array.getElem?_eq_some_iff.1 NG126.out).1).trans NG126.out)
    have NG227 := Lib.hid ((hb.block G2 (Array.getElem?_eq_some_iff.1 NG226.out).1).trans NG226.out)
    have NG327 := Lib.hid hn
    clear hb hn hz hG3 hG3' zG2 HB26 Ne026 Ne126 Ne226 Ne326 Ne426 Ne526 NG026 NG126 NG226
    have hb : Below w27.heap.size w27 (w27.alloc (.cells #[.slice (some ⟨e4, 0, none⟩) 6 6, .int .i64 2, .int .i64 1] 33)) := (Below.refl _ _).alloc (Nat.le_refl _) _
    have hn := Go.heap_alloc_new w27 (.cells #[.slice (some ⟨e4, 0, none⟩) 6 6, .int .i64 2, .int .i64 1] 33)
    have hz : (w27.alloc (.cells #[.slice (some ⟨e4, 0, none⟩) 6 6, .int .i64 2, .int .i64 1] 33)).heap.size = w27.heap.size + 1 := by simp
    obtain ⟨G4, hG4'⟩ : ∃ x, G3 + 1 = x := ⟨_, rfl⟩
    have hG4 : w27.heap.size = G4 := zG3.trans hG4'
    have oG4 : w.heap.size ≤ G4 := by have := HB27.out.size; omega
    have oe0G4 : e0 < G4 := by have := (Array.getElem?_eq_some_iff.1 Ne027.out).1; omega
    have oe1G4 : e1 < G4 := by have := (Array.getElem?_eq_some_iff.1 Ne127.out).1; omega
    have oe2G4 : e2 < G4 := by have := (Array.getElem?_eq_some_iff.1 Ne227.out).1; omega
    have oe3G4 : e3 < G4 := by have := (Array.getElem?_eq_some_iff.1 Ne327.out).1; omega
    have oe4G4 : e4 < G4 := by have := (Array.getElem?_eq_some_iff.1 Ne427.out).1; omega
    have oe5G4 : e5 < G4 := by have := (Array.getElem?_eq_some_iff.1 Ne527.out).1; omega
    have oG0G4 : G0 < G4 := by have := (Array.getElem?_eq_some_iff.1 NG027.out).1; omega
    have oG1G4 : G1 < G4 := by have := (Array.getElem?_eq_some_iff.1 NG127.out).1; omega
    have oG2G4 : G2 < G4 := by have := (Array.getElem?_eq_some_iff.1 NG227.out).1; omega
    have oG3G4 : G3 < G4 := by have := (Array.getElem?_eq_some_iff.1 NG327.out).1; omega
    generalize w27.alloc (.cells #[.slice (some ⟨e4, 0, none⟩) 6 6, .int .i64 2, .int .i64 1] 33) = w28 at hb hn hz ⊢
    rw [hG4] at hn hz
    rw [hG4']
    have zG4 := hz
    have HB28 := Lib.hid (HB27.out.trans (hb.mono HB27.out.size))
    have Ne028 := Lib.hid ((hb.block e0 (Array.getElem?_eq_some_iff.1 Ne027.out).1).trans Ne027.out)
    have Ne128 := Lib.hid ((hb.block e1 (Array.getElem?_eq_some_iff.1 Ne127.out).1).trans Ne127.out)
    have Ne228 := Lib.hid ((hb.block e2 (Array.getElem?_eq_some_iff.1 Ne227.out).1).trans Ne227.out)
    have Ne328 := Lib.hid ((hb.block e3 (Array.getElem?_eq_some_iff.1 Ne327.out).1).trans Ne327.out)
    have Ne428 := Lib.hid ((hb.block e4 (Array.getElem?_eq_some_iff.1 Ne427.out).1).trans Ne427.out)
    have Ne528 := Lib.hid ((hb.block e5 (Array.getElem?_eq_some_iff.1 Ne527.out).1).trans Ne527.out)
    have NG028 := Lib.hid ((hb.block G0 (Array.getElem?_eq_some_iff.1 NG027.out).1).trans NG027.out)
    have NG128 := Lib.hid ((hb.block G1 (Array.getElem?_eq_some_iff.1 NG127.out).1).trans NG127.out)
    have NG228 := Lib.hid ((hb.block G2 (Array.getElem?_eq_some_iff.1 NG227.out).1).trans NG227.out)
    have NG328 := Lib.hid ((hb.block G3 (Array.getElem?_eq_some_iff.1 NG327.out).1).trans NG327.out)
    have NG428 := Lib.hid hn
    clear hb hn hz hG4 hG4' zG3 HB27 Ne027 Ne127 Ne227 Ne327 Ne427 Ne527 NG027 NG127 NG227 NG327
    have hb : Below w28.heap.size w28 (w28.alloc (.cells #[.slice (some ⟨e5, 0, none⟩) 6 6, .int .i64 2, .int .i64 1] 33)) := (Below.refl _ _).alloc (Nat.le_refl _) _
    have hn := Go.heap_alloc_new w28 (.cells #[.slice (some ⟨e5, 0, none⟩) 6 6, .int .i64 2, .int .i64 1] 33)
    have hz : (w28.alloc (.cells #[.slice (some ⟨e5, 0, none⟩) 6 6, .int .i64 2, .int .i64 1] 33)).heap.size = w28.heap.size + 1 := by simp
    obtain ⟨G5, hG5'⟩ : ∃ x, G4 + 1 = x := ⟨_, rfl⟩
    have hG5 : w28.heap.size = G5 := zG4.trans hG5'
    have oG5 : w.heap.size ≤ G5 := by have := HB28.out.size; omega
    have oe0G5 : e0 < G5 := by have := (Array.getElem?_eq_some_iff.1 Ne028.out).1; omega
    have oe1G5 : e1 < G5 := by have := (Array.getElem?_eq_some_iff.1 Ne128.out).1; omega
    have oe2G5 : e2 < G5 := by have := (Array.getElem?_eq_some_iff.1 Ne228.out).1; omega
    have oe3G5 : e3 < G5 := by have := (Array.getElem?_eq_some_iff.1 Ne328.out).1; omega
    have oe4G5 : e4 < G5 := by have := (Array.getElem?_eq_some_iff.1 Ne428.out).1; omega
    have oe5G5 : e5 < G5 := by have := (Array.getElem?_eq_some_iff.1 Ne528.out).1; omega
    have oG0G5 : G0 < G5 := by have := (Array.getElem?_eq_some_iff.1 NG028.out).1; omega
    have oG1G5 : G1 < G5 := by have := (Array.getElem?_eq_some_iff.1 NG128.out).1; omega
    have oG2G5 : G2 < G5 := by have := (Array.getElem?_eq_some_iff.1 NG228.out).1; omega
    have oG3G5 : G3 < G5 := by have := (Array.getElem?_eq_some_iff.1 NG328.out).1; omega
    have oG4G5 : G4 < G5 := by have := (Array.getElem?_eq_some_iff.1 NG428.out).1; omega
    generalize w28.alloc (.cells #[.slice (some ⟨e5, 0, none⟩) 6 6, .int .i64 2, .int .i64 1] 33) = w29 at hb hn hz ⊢
    rw [hG5] at hn hz
    rw [hG5']
    have zG5 := hz
    have HB29 := Lib.hid (HB28.out.trans (hb.mono HB28.out.size))
    have Ne029 := Lib.hid ((hb.block e0 (Array.getElem?_eq_some_iff.1 Ne028.out).1).trans Ne028.out)
    have Ne129 := Lib.hid ((hb.block e1 (Array.getElem?_eq_some_iff.1 Ne128.out).1).trans Ne128.out)
    have Ne229 := Lib.hid ((hb.block e2 (Array.getElem?_eq_some_iff.1 Ne228.out).1).trans Ne228.out)
    have Ne329 := Lib.hid ((hb.block e3 (Array.getElem?_eq_some_iff.1 Ne328.out).1).trans Ne328.out)
    have Ne429 := Lib.hid ((hb.block e4 (Array.getElem?_eq_some_iff.1 Ne428.out).1).trans Ne428.out)
    have Ne529 := Lib.hid ((hb.block e5 (Array.getElem?_eq_some_iff.1 Ne528.out).1).trans Ne528.out)
    have NG029 := Lib.hid ((hb.block G0 (Array.getElem?_eq_some_iff.1 NG028.out).1).trans NG028.out)
    have NG129 := Lib.hid ((hb.block G1 (Array.getElem?_eq_some_iff.1 NG128.out).1).trans NG128.out)
    have NG229 := Lib.hid ((hb.block G2 (Array.getElem?_eq_some_iff.1 NG228.out).1).trans NG228.out)
    have NG329 := Lib.hid ((hb.block G3 (Array.getElem?_eq_some_iff.1 NG328.out).1).trans NG328.out)
    have NG429 := Lib.hid ((hb.block G4 (Array.getElem?_eq_some_iff.1 NG428.out).1).trans NG428.out)
    have NG529 := Lib.hid hn
    clear hb hn hz hG5 hG5' zG4 HB28 Ne028 Ne128 Ne228 Ne328 Ne428 Ne528 NG028 NG128 NG228 NG328 NG428
    clear zG5
    have sx : w29.frozen? ⟨G0, 1, none⟩ = false := by have := NG029.out; simp [World.frozen?, this]
    have sy : w29.cell? ⟨G0, 1, none⟩ = some (.int .i64 2) := by have := NG029.out; simp [World.cell?, this]
    go_upto_region 12 with fail
    have HB30 := Lib.hid (HB29.out.setCell (p := ⟨G0, 1, none⟩) (by show w.heap.size ≤ G0; omega) (.int .i64 3))
    have Ne030 := Lib.hid ((Below.heap_setCell w29 ⟨G0, 1, none⟩ (.int .i64 3) e0 (by show e0 ≠ G0; omega)).trans Ne029.out)
    have Ne130 := Lib.hid ((Below.heap_setCell w29 ⟨G0, 1, none⟩ (.int .i64 3) e1 (by show e1 ≠ G0; omega)).trans Ne129.out)
    have Ne230 := Lib.hid ((Below.heap_setCell w29 ⟨G0, 1, none⟩ (.int .i64 3) e2 (by show e2 ≠ G0; omega)).trans Ne229.out)
    have Ne330 := Lib.hid ((Below.heap_setCell w29 ⟨G0, 1, none⟩ (.int .i64 3) e3 (by show e3 ≠ G0; omega)).trans Ne329.out)
    have Ne430 := Lib.hid ((Below.heap_setCell w29 ⟨G0, 1, none⟩ (.int .i64 3) e4 (by show e4 ≠ G0; omega)).trans Ne429.out)
    have Ne530 := Lib.hid ((Below.heap_setCell w29 ⟨G0, 1, none⟩ (.int .i64 3) e5 (by show e5 ≠ G0; omega)).trans Ne529.out)
    have NG130 := Lib.hid ((Below.heap_setCell w29 ⟨G0, 1, none⟩ (.int .i64 3) G1 (by show G1 ≠ G0; omega)).trans NG129.out)
    have NG230 := Lib.hid ((Below.heap_setCell w29 ⟨G0, 1, none⟩ (.int .i64 3) G2 (by show G2 ≠ G0; omega)).trans NG229.out)
    have NG330 := Lib.hid ((Below.heap_setCell w29 ⟨G0, 1, none⟩ (.int .i64 3) G3 (by show G3 ≠ G0; omega)).trans NG329.out)
    have NG430 := Lib.hid ((Below.heap_setCell w29 ⟨G0, 1, none⟩ (.int .i64 3) G4 (by show G4 ≠ G0; omega)).trans NG429.out)
    have NG530 := Lib.hid ((Below.heap_setCell w29 ⟨G0, 1, none⟩ (.int .i64 3) G5 (by show G5 ≠ G0; omega)).trans NG529.out)
    have NG030 := Lib.hid (show (w29.setCell ⟨G0, 1, none⟩ (.int .i64 3)).heap[G0]? = some (.cells #[.slice (some ⟨e0, 0, none⟩) 6 6, .int .i64 3, .int .i64 1] 33 (0, 0)) by have := NG029.out; simp [World.setCell, Array.getElem?_modify, this])
    generalize w29.setCell ⟨G0, 1, none⟩ (.int .i64 3) = w30 at HB30 Ne030 Ne130 Ne230 Ne330 Ne430 Ne530 NG030 NG130 NG230 NG330 NG430 NG530 ⊢
    clear sx sy HB29 Ne029 Ne129 Ne229 Ne329 Ne429 Ne529 NG029 NG129 NG229 NG329 NG429 NG529
    have sx : w30.frozen? ⟨G1, 0, none⟩ = false := by simp [World.frozen?, NG130.out]
    have sy : w30.cell? ⟨G1, 0, none⟩ = some (.slice (some ⟨e1, 0, none⟩) 6 6) := by simp [World.cell?, NG130.out]
    have lG1 := (Array.getElem?_eq_some_iff.1 NG130.out).1
    go_upto_region 13 with fail
    clear lG1
    obtain ⟨Ba, hBa⟩ : ∃ x, w30.heap.size = x := ⟨_, rfl⟩
    rw [hBa]
    have oBa : w.heap.size ≤ Ba := by have := HB30.out.size; omega
    have oe0Ba : e0 < Ba := by have := (Array.getElem?_eq_some_iff.1 Ne030.out).1; omega
    have oe1Ba : e1 < Ba := by have := (Array.getElem?_eq_some_iff.1 Ne130.out).1; omega
    have oe2Ba : e2 < Ba := by have := (Array.getElem?_eq_some_iff.1 Ne230.out).1; omega
    have oe3Ba : e3 < Ba := by have := (Array.getElem?_eq_some_iff.1 Ne330.out).1; omega
    have oe4Ba : e4 < Ba := by have := (Array.getElem?_eq_some_iff.1 Ne430.out).1; omega
    have oe5Ba : e5 < Ba := by have := (Array.getElem?_eq_some_iff.1 Ne530.out).1; omega
    have oG0Ba : G0 < Ba := by have := (Array.getElem?_eq_some_iff.1 NG030.out).1; omega
    have oG1Ba : G1 < Ba := by have := (Array.getElem?_eq_some_iff.1 NG130.out).1; omega
    have oG2Ba : G2 < Ba := by have := (Array.getElem?_eq_some_iff.1 NG230.out).1; omega
    have oG3Ba : G3 < Ba := by have := (Array.getElem?_eq_some_iff.1 NG330.out).1; omega
    have oG4Ba : G4 < Ba := by have := (Array.getElem?_eq_some_iff.1 NG430.out).1; omega
    have oG5Ba : G5 < Ba := by have := (Array.getElem?_eq_some_iff.1 NG530.out).1; omega
    have hz : (w30.setCell ⟨G1, 0, none⟩ (.slice (some ⟨Ba, 0, none⟩) 1 1)).heap.size = Ba := by rw [← hBa]; simp
    clear hBa
    clear sx sy
    have sx : w30.frozen? ⟨G1, 0, none⟩ = false := by have := NG130.out; simp [World.frozen?, this]
    have sy : w30.cell? ⟨G1, 0, none⟩ = some (.slice (some ⟨e1, 0, none⟩) 6 6) := by have := NG130.out; simp [World.cell?, this]
    have HB31 := Lib.hid (HB30.out.setCell (p := ⟨G1, 0, none⟩) (by show w.heap.size ≤ G1; omega) (.slice (some ⟨Ba, 0, none⟩) 1 1))
    have Ne031 := Lib.hid ((Below.heap_setCell w30 ⟨G1, 0, none⟩ (.slice (some ⟨Ba, 0, none⟩) 1 1) e0 (by show e0 ≠ G1; omega)).trans Ne030.out)
    have Ne131 := Lib.hid ((Below.heap_setCell w30 ⟨G1, 0, none⟩ (.slice (some ⟨Ba, 0, none⟩) 1 1) e1 (by show e1 ≠ G1; omega)).trans Ne130.out)
    have Ne231 := Lib.hid ((Below.heap_setCell w30 ⟨G1, 0, none⟩ (.slice (some ⟨Ba, 0, none⟩) 1 1) e2 (by show e2 ≠ G1; omega)).trans Ne230.out)
    have Ne331 := Lib.hid ((Below.heap_setCell w30 ⟨G1, 0, none⟩ (.slice (some ⟨Ba, 0, none⟩) 1 1) e3 (by show e3 ≠ G1; omega)).trans Ne330.out)
    have Ne431 := Lib.hid ((Below.heap_setCell w30 ⟨G1, 0, none⟩ (.slice (some ⟨Ba, 0, none⟩) 1 1) e4 (by show e4 ≠ G1; omega)).trans Ne430.out)
    have Ne531 := Lib.hid ((Below.heap_setCell w30 ⟨G1, 0, none⟩ (.slice (some ⟨Ba, 0, none⟩) 1 1) e5 (by show e5 ≠ G1; omega)).trans Ne530.out)
    have NG031 := Lib.hid ((Below.heap_setCell w30 ⟨G1, 0, none⟩ (.slice (some ⟨Ba, 0, none⟩) 1 1) G0 (by show G0 ≠ G1; omega)).trans NG030.out)
    have NG231 := Lib.hid ((Below.heap_setCell w30 ⟨G1, 0, none⟩ (.slice (some ⟨Ba, 0, none⟩) 1 1) G2 (by show G2 ≠ G1; omega)).trans NG230.out)
    have NG331 := Lib.hid ((Below.heap_setCell w30 ⟨G1, 0, none⟩ (.slice (some ⟨Ba, 0, none⟩) 1 1) G3 (by show G3 ≠ G1; omega)).trans NG330.out)
    have NG431 := Lib.hid ((Below.heap_setCell w30 ⟨G1, 0, none⟩ (.slice (some ⟨Ba, 0, none⟩) 1 1) G4 (by show G4 ≠ G1; omega)).trans NG430.out)
    have NG531 := Lib.hid ((Below.heap_setCell w30 ⟨G1, 0, none⟩ (.slice (some ⟨Ba, 0, none⟩) 1 1) G5 (by show G5 ≠ G1; omega)).trans NG530.out)
    have NG131 := Lib.hid (show (w30.setCell ⟨G1, 0, none⟩ (.slice (some ⟨Ba, 0, none⟩) 1 1)).heap[G1]? = some (.cells #[.slice (some ⟨Ba, 0, none⟩) 1 1, .int .i64 2, .int .i64 1] 33 (0, 0)) by have := NG130.out; simp [World.setCell, Array.getElem?_modify, this])
    generalize w30.setCell ⟨G1, 0, none⟩ (.slice (some ⟨Ba, 0, none⟩) 1 1) = w31 at hz HB31 Ne031 Ne131 Ne231 Ne331 Ne431 Ne531 NG031 NG131 NG231 NG331 NG431 NG531 ⊢
    clear sx sy HB30 Ne030 Ne130 Ne230 Ne330 Ne430 Ne530 NG030 NG130 NG230 NG330 NG430 NG530
    have hb : Below w31.heap.size w31 (w31.alloc (.cells #[.int .i64 (-1), .int .i64 0, .int .i64 40, .int .i64 1] 104)) := (Below.refl _ _).alloc (Nat.le_refl _) _
    have hn := Go.heap_alloc_new w31 (.cells #[.int .i64 (-1), .int .i64 0, .int .i64 40, .int .i64 1] 104)
    rw [hz] at hn
    generalize w31.alloc (.cells #[.int .i64 (-1), .int .i64 0, .int .i64 40, .int .i64 1] 104) = w32 at hb hn ⊢
    have HB32 := Lib.hid (HB31.out.trans (hb.mono HB31.out.size))
    have Ne032 := Lib.hid ((hb.block e0 (Array.getElem?_eq_some_iff.1 Ne031.out).1).trans Ne031.out)
    have Ne132 := Lib.hid ((hb.block e1 (Array.getElem?_eq_some_iff.1 Ne131.out).1).trans Ne131.out)
    have Ne232 := Lib.hid ((hb.block e2 (Array.getElem?_eq_some_iff.1 Ne231.out).1).trans Ne231.out)
    have Ne332 := Lib.hid ((hb.block e3 (Array.getElem?_eq_some_iff.1 Ne331.out).1).trans Ne331.out)
    have Ne432 := Lib.hid ((hb.block e4 (Array.getElem?_eq_some_iff.1 Ne431.out).1).trans Ne431.out)
    have Ne532 := Lib.hid ((hb.block e5 (Array.getElem?_eq_some_iff.1 Ne531.out).1).trans Ne531.out)
    have NG032 := Lib.hid ((hb.block G0 (Array.getElem?_eq_some_iff.1 NG031.out).1).trans NG031.out)
    have NG132 := Lib.hid ((hb.block G1 (Array.getElem?_eq_some_iff.1 NG131.out).1).trans NG131.out)
    have NG232 := Lib.hid ((hb.block G2 (Array.getElem?_eq_some_iff.1 NG231.out).1).trans NG231.out)
    have NG332 := Lib.hid ((hb.block G3 (Array.getElem?_eq_some_iff.1 NG331.out).1).trans NG331.out)
    have NG432 := Lib.hid ((hb.block G4 (Array.getElem?_eq_some_iff.1 NG431.out).1).trans NG431.out)
    have NG532 := Lib.hid ((hb.block G5 (Array.getElem?_eq_some_iff.1 NG531.out).1).trans NG531.out)
    have NBa32 := Lib.hid hn
    clear hb hn hz HB31 Ne031 Ne131 Ne231 Ne331 Ne431 Ne531 NG031 NG131 NG231 NG331 NG431 NG531
    have sx : w32.frozen? ⟨G1, 1, none⟩ = false := by have := NG132.out; simp [World.frozen?, this]
    have sy : w32.cell? ⟨G1, 1, none⟩ = some (.int .i64 2) := by have := NG132.out; simp [World.cell?, this]
    go_upto_region 14 with fail
    have HB33 := Lib.hid (HB32.out.setCell (p := ⟨G1, 1, none⟩) (by show w.heap.size ≤ G1; omega) (.int .i64 0))
    have Ne033 := Lib.hid ((Below.heap_setCell w32 ⟨G1, 1, none⟩ (.int .i64 0) e0 (by show e0 ≠ G1; omega)).trans Ne032.out)
    have Ne133 := Lib.hid ((Below.heap_setCell w32 ⟨G1, 1, none⟩ (.int .i64 0) e1 (by show e1 ≠ G1; omega)).trans Ne132.out)
    have Ne233 := Lib.hid ((Below.heap_setCell w32 ⟨G1, 1, none⟩ (.int .i64 0) e2 (by show e2 ≠ G1; omega)).trans Ne232.out)
    have Ne333 := Lib.hid ((Below.heap_setCell w32 ⟨G1, 1, none⟩ (.int .i64 0) e3 (by show e3 ≠ G1; omega)).trans Ne332.out)
    have Ne433 := Lib.hid ((Below.heap_setCell w32 ⟨G1, 1, none⟩ (.int .i64 0) e4 (by show e4 ≠ G1; omega)).trans Ne432.out)
    have Ne533 := Lib.hid ((Below.heap_setCell w32 ⟨G1, 1, none⟩ (.int .i64 0) e5 (by show e5 ≠ G1; omega)).trans Ne532.out)
    have NG033 := Lib.hid ((Below.heap_setCell w32 ⟨G1, 1, none⟩ (.int .i64 0) G0 (by show G0 ≠ G1; omega)).trans NG032.out)
    have NG233 := Lib.hid ((Below.heap_setCell w32 ⟨G1, 1, none⟩ (.int .i64 0) G2 (by show G2 ≠ G1; omega)).trans NG232.out)
    have NG333 := Lib.hid ((Below.heap_setCell w32 ⟨G1, 1, none⟩ (.int .i64 0) G3 (by show G3 ≠ G1; omega)).trans NG332.out)
    have NG433 := Lib.hid ((Below.heap_setCell w32 ⟨G1, 1, none⟩ (.int .i64 0) G4 (by show G4 ≠ G1; omega)).trans NG432.out)
    have NG533 := Lib.hid ((Below.heap_setCell w32 ⟨G1, 1, none⟩ (.int .i64 0) G5 (by show G5 ≠ G1; omega)).trans NG532.out)
    have NBa33 := Lib.hid ((Below.heap_setCell w32 ⟨G1, 1, none⟩ (.int .i64 0) Ba (by show Ba ≠ G1; omega)).trans NBa32.out)
    have NG133 := Lib.hid (show (w32.setCell ⟨G1, 1, none⟩ (.int .i64 0)).heap[G1]? = some (.cells #[.slice (some ⟨Ba, 0, none⟩) 1 1, .int .i64 0, .int .i64 1] 33 (0, 0)) by have := NG132.out; simp [World.setCell, Array.getElem?_modify, this])
    generalize w32.setCell ⟨G1, 1, none⟩ (.int .i64 0) = w33 at HB33 Ne033 Ne133 Ne233 Ne333 Ne433 Ne533 NG033 NG133 NG233 NG333 NG433 NG533 NBa33 ⊢
    clear sx sy HB32 Ne032 Ne132 Ne232 Ne332 Ne432 Ne532 NG032 NG132 NG232 NG332 NG432 NG532 NBa32
    have sx : w33.frozen? ⟨e2, 0, none⟩ = false := by have := Ne233.out; unfold SixBlk at this; simp [World.frozen?, this]
    have sy : w33.cell? ⟨e2, 0, none⟩ = some (.int .i64 0) := by have := Ne233.out; unfold SixBlk at this; simp [World.cell?, this]
    have sz : w33.cell? ⟨G2, 0, none⟩ = some (.slice (some ⟨e2, 0, none⟩) 6 6) := by simp [World.cell?, NG233.out]
    go_upto_region 15 with fail
    have HB34 := Lib.hid (HB33.out.setCell (p := ⟨e2, 0, none⟩) (by show w.heap.size ≤ e2; omega) (.int .i64 2))
    have Ne034 := Lib.hid ((Below.heap_setCell w33 ⟨e2, 0, none⟩ (.int .i64 2) e0 (by show e0 ≠ e2; omega)).trans Ne033.out)
    have Ne134 := Lib.hid ((Below.heap_setCell w33 ⟨e2, 0, none⟩ (.int .i64 2) e1 (by show e1 ≠ e2; omega)).trans Ne133.out)
    have Ne334 := Lib.hid ((Below.heap_setCell w33 ⟨e2, 0, none⟩ (.int .i64 2) e3 (by show e3 ≠ e2; omega)).trans Ne333.out)
    have Ne434 := Lib.hid ((Below.heap_setCell w33 ⟨e2, 0, none⟩ (.int .i64 2) e4 (by show e4 ≠ e2; omega)).trans Ne433.out)
    have Ne534 := Lib.hid ((Below.heap_setCell w33 ⟨e2, 0, none⟩ (.int .i64 2) e5 (by show e5 ≠ e2; omega)).trans Ne533.out)
    have NG034 := Lib.hid ((Below.heap_setCell w33 ⟨e2, 0, none⟩ (.int .i64 2) G0 (by show G0 ≠ e2; omega)).trans NG033.out)
    have NG134 := Lib.hid ((Below.heap_setCell w33 ⟨e2, 0, none⟩ (.int .i64 2) G1 (by show G1 ≠ e2; omega)).trans NG133.out)
    have NG234 := Lib.hid ((Below.heap_setCell w33 ⟨e2, 0, none⟩ (.int .i64 2) G2 (by show G2 ≠ e2; omega)).trans NG233.out)
    have NG334 := Lib.hid ((Below.heap_setCell w33 ⟨e2, 0, none⟩ (.int .i64 2) G3 (by show G3 ≠ e2; omega)).trans NG333.out)
    have NG434 := Lib.hid ((Below.heap_setCell w33 ⟨e2, 0, none⟩ (.int .i64 2) G4 (by show G4 ≠ e2; omega)).trans NG433.out)
    have NG534 := Lib.hid ((Below.heap_setCell w33 ⟨e2, 0, none⟩ (.int .i64 2) G5 (by show G5 ≠ e2; omega)).trans NG533.out)
    have NBa34 := Lib.hid ((Below.heap_setCell w33 ⟨e2, 0, none⟩ (.int .i64 2) Ba (by show Ba ≠ e2; omega)).trans NBa33.out)
    have Ne234 := Lib.hid (show (w33.setCell ⟨e2, 0, none⟩ (.int .i64 2)).heap[e2]? = some (SixBlk 2 1) by have := Ne233.out; unfold SixBlk at this; simp [World.setCell, Array.getElem?_modify, this]; rfl)
    generalize w33.setCell ⟨e2, 0, none⟩ (.int .i64 2) = w34 at HB34 Ne034 Ne134 Ne234 Ne334 Ne434 Ne534 NG034 NG134 NG234 NG334 NG434 NG534 NBa34 ⊢
    clear sx sy HB33 Ne033 Ne133 Ne233 Ne333 Ne433 Ne533 NG033 NG133 NG233 NG333 NG433 NG533 NBa33
    clear sz
    have sx : w34.frozen? ⟨e3, 3, none⟩ = false := by have := Ne334.out; unfold SixBlk at this; simp [World.frozen?, this]
    have sy : w34.cell? ⟨e3, 3, none⟩ = some (.int .i64 1) := by have := Ne334.out; unfold SixBlk at this; simp [World.cell?, this]
    have sz : w34.cell? ⟨G3, 0, none⟩ = some (.slice (some ⟨e3, 0, none⟩) 6 6) := by simp [World.cell?, NG334.out]
    go_upto_region 16 with fail
    have HB35 := Lib.hid (HB34.out.setCell (p := ⟨e3, 3, none⟩) (by show w.heap.size ≤ e3; omega) (.int .i64 0))
    have Ne035 := Lib.hid ((Below.heap_setCell w34 ⟨e3, 3, none⟩ (.int .i64 0) e0 (by show e0 ≠ e3; omega)).trans Ne034.out)
    have Ne135 := Lib.hid ((Below.heap_setCell w34 ⟨e3, 3, none⟩ (.int .i64 0) e1 (by show e1 ≠ e3; omega)).trans Ne134.out)
    have Ne235 := Lib.hid ((Below.heap_setCell w34 ⟨e3, 3, none⟩ (.int .i64 0) e2 (by show e2 ≠ e3; omega)).trans Ne234.out)
    have Ne435 := Lib.hid ((Below.heap_setCell w34 ⟨e3, 3, none⟩ (.int .i64 0) e4 (by show e4 ≠ e3; omega)).trans Ne434.out)
    have Ne535 := Lib.hid ((Below.heap_setCell w34 ⟨e3, 3, none⟩ (.int .i64 0) e5 (by show e5 ≠ e3; omega)).trans Ne534.out)
    have NG035 := Lib.hid ((Below.heap_setCell w34 ⟨e3, 3, none⟩ (.int .i64 0) G0 (by show G0 ≠ e3; omega)).trans NG034.out)
    have NG135 := Lib.hid ((Below.heap_setCell w34 ⟨e3, 3, none⟩ (.int .i64 0) G1 (by show G1 ≠ e3; omega)).trans NG134.out)
    have NG235 := Lib.hid ((Below.heap_setCell w34 ⟨e3, 3, none⟩ (.int .i64 0) G2 (by show G2 ≠ e3; omega)).trans NG234.out)
    have NG335 := Lib.hid ((Below.heap_setCell w34 ⟨e3, 3, none⟩ (.int .i64 0) G3 (by show G3 ≠ e3; omega)).trans NG334.out)
    have NG435 := Lib.hid ((Below.heap_setCell w34 ⟨e3, 3, none⟩ (.int .i64 0) G4 (by show G4 ≠ e3; omega)).trans NG434.out)
    have NG535 := Lib.hid ((Below.heap_setCell w34 ⟨e3, 3, none⟩ (.int .i64 0) G5 (by show G5 ≠ e3; omega)).trans NG534.out)
    have NBa35 := Lib.hid ((Below.heap_setCell w34 ⟨e3, 3, none⟩ (.int .i64 0) Ba (by show Ba ≠ e3; omega)).trans NBa34.out)
    have Ne335 := Lib.hid (show (w34.setCell ⟨e3, 3, none⟩ (.int .i64 0)).heap[e3]? = some (SixBlk 0 0) by have := Ne334.out; unfold SixBlk at this; simp [World.setCell, Array.getElem?_modify, this]; rfl)
    generalize w34.setCell ⟨e3, 3, none⟩ (.int .i64 0) = w35 at HB35 Ne035 Ne135 Ne235 Ne335 Ne435 Ne535 NG035 NG135 NG235 NG335 NG435 NG535 NBa35 ⊢
    clear sx sy HB34 Ne034 Ne134 Ne234 Ne334 Ne434 Ne534 NG034 NG134 NG234 NG334 NG434 NG534 NBa34
    clear sz
    have sx : w35.frozen? ⟨G4, 2, none⟩ = false := by have := NG435.out; simp [World.frozen?, this]
    have sy : w35.cell? ⟨G4, 2, none⟩ = some (.int .i64 1) := by have := NG435.out; simp [World.cell?, this]
    go_upto_region 17 with fail
    have HB36 := Lib.hid (HB35.out.setCell (p := ⟨G4, 2, none⟩) (by show w.heap.size ≤ G4; omega) (.int .i64 6))
    have Ne036 := Lib.hid ((Below.heap_setCell w35 ⟨G4, 2, none⟩ (.int .i64 6) e0 (by show e0 ≠ G4; omega)).trans Ne035.out)
    have Ne136 := Lib.hid ((Below.heap_setCell w35 ⟨G4, 2, none⟩ (.int .i64 6) e1 (by show e1 ≠ G4; omega)).trans Ne135.out)
    have Ne236 := Lib.hid ((Below.heap_setCell w35 ⟨G4, 2, none⟩ (.int .i64 6) e2 (by show e2 ≠ G4; omega)).trans Ne235.out)
    have Ne336 := Lib.hid ((Below.heap_setCell w35 ⟨G4, 2, none⟩ (.int .i64 6) e3 (by show e3 ≠ G4; omega)).trans Ne335.out)
    have Ne436 := Lib.hid ((Below.heap_setCell w35 ⟨G4, 2, none⟩ (.int .i64 6) e4 (by show e4 ≠ G4; omega)).trans Ne435.out)
    have Ne536 := Lib.hid ((Below.heap_setCell w35 ⟨G4, 2, none⟩ (.int .i64 6) e5 (by show e5 ≠ G4; omega)).trans Ne535.out)
    have NG036 := Lib.hid ((Below.heap_setCell w35 ⟨G4, 2, none⟩ (.int .i64 6) G0 (by show G0 ≠ G4; omega)).trans NG035.out)
    have NG136 := Lib.hid ((Below.heap_setCell w35 ⟨G4, 2, none⟩ (.int .i64 6) G1 (by show G1 ≠ G4; omega)).trans NG135.out)
    have NG236 := Lib.hid ((Below.heap_setCell w35 ⟨G4, 2, none⟩ (.int .i64 6) G2 (by show G2 ≠ G4; omega)).trans NG235.out)
    have NG336 := Lib.hid ((Below.heap_setCell w35 ⟨G4, 2, none⟩ (.int .i64 6) G3 (by show G3 ≠ G4; omega)).trans NG335.out)
    have NG536 := Lib.hid ((Below.heap_setCell w35 ⟨G4, 2, none⟩ (.int .i64 6) G5 (by show G5 ≠ G4; omega)).trans NG535.out)
    have NBa36 := Lib.hid ((Below.heap_setCell w35 ⟨G4, 2, none⟩ (.int .i64 6) Ba (by show Ba ≠ G4; omega)).trans NBa35.out)
    have NG436 := Lib.hid (show (w35.setCell ⟨G4, 2, none⟩ (.int .i64 6)).heap[G4]? = some (.cells #[.slice (some ⟨e4, 0, none⟩) 6 6, .int .i64 2, .int .i64 6] 33 (0, 0)) by have := NG435.out; simp [World.setCell, Array.getElem?_modify, this])
    generalize w35.setCell ⟨G4, 2, none⟩ (.int .i64 6) = w36 at HB36 Ne036 Ne136 Ne236 Ne336 Ne436 Ne536 NG036 NG136 NG236 NG336 NG436 NG536 NBa36 ⊢
    clear sx sy HB35 Ne035 Ne135 Ne235 Ne335 Ne435 Ne535 NG035 NG135 NG235 NG335 NG435 NG535 NBa35
    have hmk : ∀ w : World, (Instr.makeSlice 31 (.int .i64 13) (.int .i64 13)).run Try.prog w = .ok (.slice (some ⟨w.heap.size, 0, none⟩) 13 13) (w.alloc (.cells #[.int .i64 0, .int .i64 0, .int .i64 0, .int .i64 0, .int .i64 0, .int .i64 0, .int .i64 0, .int .i64 0, .int .i64 0, .int .i64 0, .int .i64 0, .int .i64 0, .int .i64 0, .int .i64 0, .int .i64 0, .int .i64 0, .int .i64 0, .int .i64 0, .int .i64 0, .int .i64 0, .int .i64 0, .int .i64 0, .int .i64 0, .int .i64 0, .int .i64 0, .int .i64 0, .int .i64 0, .int .i64 0, .int .i64 0, .int .i64 0, .int .i64 0, .int .i64 0, .int .i64 0, .int .i64 0, .int .i64 0, .int .i64 0, .int .i64 0, .int .i64 0, .int .i64 0, .int .i64 0, .int .i64 0, .int .i64 0, .int .i64 0, .int .i64 0, .int .i64 0, .int .i64 0, .int .i64 0, .int .i64 0, .int .i64 0, .int .i64 0, .int .i64 0, .int .i64 0] 104)) := fun _ => by kernel_rfl
    have sx : w36.frozen? ⟨G5, 0, none⟩ = false := by simp [World.frozen?, NG536.out]
    have sy : w36.cell? ⟨G5, 0, none⟩ = some (.slice (some ⟨e5, 0, none⟩) 6 6) := by simp [World.cell?, NG536.out]
    have lG5 := (Array.getElem?_eq_some_iff.1 NG536.out).1
    go_upto_region 18 with fail
    clear lG5
    obtain ⟨Bz, hBz⟩ : ∃ x, w36.heap.size = x := ⟨_, rfl⟩
    rw [hBz]
    have oBz : w.heap.size ≤ Bz := by have := HB36.out.size; omega
    have oe0Bz : e0 < Bz := by have := (Array.getElem?_eq_some_iff.1 Ne036.out).1; omega
    have oe1Bz : e1 < Bz := by have := (Array.getElem?_eq_some_iff.1 Ne136.out).1; omega
    have oe2Bz : e2 < Bz := by have := (Array.getElem?_eq_some_iff.1 Ne236.out).1; omega
    have oe3Bz : e3 < Bz := by have := (Array.getElem?_eq_some_iff.1 Ne336.out).1; omega
    have oe4Bz : e4 < Bz := by have := (Array.getElem?_eq_some_iff.1 Ne436.out).1; omega
    have oe5Bz : e5 < Bz := by have := (Array.getElem?_eq_some_iff.1 Ne536.out).1; omega
    have oG0Bz : G0 < Bz := by have := (Array.getElem?_eq_some_iff.1 NG036.out).1; omega
    have oG1Bz : G1 < Bz := by have := (Array.getElem?_eq_some_iff.1 NG136.out).1; omega
    have oG2Bz : G2 < Bz := by have := (Array.getElem?_eq_some_iff.1 NG236.out).1; omega
    have oG3Bz : G3 < Bz := by have := (Array.getElem?_eq_some_iff.1 NG336.out).1; omega
    have oG4Bz : G4 < Bz := by have := (Array.getElem?_eq_some_iff.1 NG436.out).1; omega
    have oG5Bz : G5 < Bz := by have := (Array.getElem?_eq_some_iff.1 NG536.out).1; omega
    have oBaBz : Ba < Bz := by have := (Array.getElem?_eq_some_iff.1 NBa36.out).1; omega
    have hz : (w36.setCell ⟨G5, 0, none⟩ (.slice (some ⟨Bz, 0, none⟩) 13 13)).heap.size = Bz := by rw [← hBz]; simp
    clear hBz
    clear sx sy
    have sx : w36.frozen? ⟨G5, 0, none⟩ = false := by have := NG536.out; simp [World.frozen?, this]
    have sy : w36.cell? ⟨G5, 0, none⟩ = some (.slice (some ⟨e5, 0, none⟩) 6 6) := by have := NG536.out; simp [World.cell?, this]
    have HB37 := Lib.hid (HB36.out.setCell (p := ⟨G5, 0, none⟩) (by show w.heap.size ≤ G5; omega) (.slice (some ⟨Bz, 0, none⟩) 13 13))
    have Ne037 := Lib.hid ((Below.heap_setCell w36 ⟨G5, 0, none⟩ (.slice (some ⟨Bz, 0, none⟩) 13 13) e0 (by show e0 ≠ G5; omega)).trans Ne036.out)
    have Ne137 := Lib.hid ((Below.heap_setCell w36 ⟨G5, 0, none⟩ (.slice (some ⟨Bz, 0, none⟩) 13 13) e1 (by show e1 ≠ G5; omega)).trans Ne136.out)
    have Ne237 := Lib.hid ((Below.heap_setCell w36 ⟨G5, 0, none⟩ (.slice (some ⟨Bz, 0, none⟩) 13 13) e2 (by show e2 ≠ G5; omega)).trans Ne236.out)
    have Ne337 := Lib.hid ((Below.heap_setCell w36 ⟨G5, 0, none⟩ (.slice (some ⟨Bz, 0, none⟩) 13 13) e3 (by show e3 ≠ G5; omega)).trans Ne336.out)
    have Ne437 := Lib.hid ((Below.heap_setCell w36 ⟨G5, 0, none⟩ (.slice (some ⟨Bz, 0, none⟩) 13 13) e4 (by show e4 ≠ G5; omega)).trans Ne436.out)
    have Ne537 := Lib.hid ((Below.heap_setCell w36 ⟨G5, 0, none⟩ (.slice (some ⟨Bz, 0, none⟩) 13 13) e5 (by show e5 ≠ G5; omega)).trans Ne536.out)
    have NG037 := Lib.hid ((Below.heap_setCell w36 ⟨G5, 0, none⟩ (.slice (some ⟨Bz, 0, none⟩) 13 13) G0 (by show G0 ≠ G5; omega)).trans NG036.out)
    have NG137 := Lib.hid ((Below.heap_setCell w36 ⟨G5, 0, none⟩ (.slice (some ⟨Bz, 0, none⟩) 13 13) G1 (by show G1 ≠ G5; omega)).trans NG136.out)
    have NG237 := Lib.hid ((Below.heap_setCell w36 ⟨G5, 0, none⟩ (.slice (some ⟨Bz, 0, none⟩) 13 13) G2 (by show G2 ≠ G5; omega)).trans NG236.out)
    have NG337 := Lib.hid ((Below.heap_setCell w36 ⟨G5, 0, none⟩ (.slice (some ⟨Bz, 0, none⟩) 13 13) G3 (by show G3 ≠ G5; omega)).trans NG336.out)
    have NG437 := Lib.hid ((Below.heap_setCell w36 ⟨G5, 0, none⟩ (.slice (some ⟨Bz, 0, none⟩) 13 13) G4 (by show G4 ≠ G5; omega)).trans NG436.out)
    have NBa37 := Lib.hid ((Below.heap_setCell w36 ⟨G5, 0, none⟩ (.slice (some ⟨Bz, 0, none⟩) 13 13) Ba (by show Ba ≠ G5; omega)).trans NBa36.out)
    have NG537 := Lib.hid (show (w36.setCell ⟨G5, 0, none⟩ (.slice (some ⟨Bz, 0, none⟩) 13 13)).heap[G5]? = some (.cells #[.slice (some ⟨Bz, 0, none⟩) 13 13, .int .i64 2, .int .i64 1] 33 (0, 0)) by have := NG536.out; simp [World.setCell, Array.getElem?_modify, this])
    generalize w36.setCell ⟨G5, 0, none⟩ (.slice (some ⟨Bz, 0, none⟩) 13 13) = w37 at hz HB37 Ne037 Ne137 Ne237 Ne337 Ne437 Ne537 NG037 NG137 NG237 NG337 NG437 NG537 NBa37 ⊢
    clear sx sy HB36 Ne036 Ne136 Ne236 Ne336 Ne436 Ne536 NG036 NG136 NG236 NG336 NG436 NG536 NBa36
    have hb : Below w37.heap.size w37 (w37.alloc (.cells #[.int .i64 0, .int .i64 0, .int .i64 0, .int .i64 0, .int .i64 0, .int .i64 0, .int .i64 0, .int .i64 0, .int .i64 0, .int .i64 0, .int .i64 0, .int .i64 0, .int .i64 0, .int .i64 0, .int .i64 0, .int .i64 0, .int .i64 0, .int .i64 0, .int .i64 0, .int .i64 0, .int .i64 0, .int .i64 0, .int .i64 0, .int .i64 0, .int .i64 0, .int .i64 0, .int .i64 0, .int .i64 0, .int .i64 0, .int .i64 0, .int .i64 0, .int .i64 0, .int .i64 0, .int .i64 0, .int .i64 0, .int .i64 0, .int .i64 0, .int .i64 0, .int .i64 0, .int .i64 0, .int .i64 0, .int .i64 0, .int .i64 0, .int .i64 0, .int .i64 0, .int .i64 0, .int .i64 0, .int .i64 0, .int .i64 0, .int .i64 0, .int .i64 0, .int .i64 0] 104)) := (Below.refl _ _).alloc (Nat.le_refl _) _
    have hn := Go.heap_alloc_new w37 (.cells #[.int .i64 0, .int .i64 0, .int .i64 0, .int .i64 0, .int .i64 0, .int .i64 0, .int .i64 0, .int .i64 0, .int .i64 0, .int .i64 0, .int .i64 0, .int .i64 0, .int .i64 0, .int .i64 0, .int .i64 0, .int .i64 0, .int .i64 0, .int .i64 0, .int .i64 0, .int .i64 0, .int .i64 0, .int .i64 0, .int .i64 0, .int .i64 0, .int .i64 0, .int .i64 0, .int .i64 0, .int .i64 0, .int .i64 0, .int .i64 0, .int .i64 0, .int .i64 0, .int .i64 0, .int .i64 0, .int .i64 0, .int .i64 0, .int .i64 0, .int .i64 0, .int .i64 0, .int .i64 0, .int .i64 0, .int .i64 0, .int .i64 0, .int .i64 0, .int .i64 0, .int .i64 0, .int .i64 0, .int .i64 0, .int .i64 0, .int .i64 0, .int .i64 0, .int .i64 0] 104)
    rw [hz] at hn
    generalize w37.alloc (.cells #[.int .i64 0, .int .i64 0, .int .i64 0, .int .i64 0, .int .i64 0, .int .i64 0, .int .i64 0, .int .i64 0, .int .i64 0, .int .i64 0, .int .i64 0, .int .i64 0, .int .i64 0, .int .i64 0, .int .i64 0, .int .i64 0, .int .i64 0, .int .i64 0, .int .i64 0, .int .i64 0, .int .i64 0, .int .i64 0, .int .i64 0, .int .i64 0, .int .i64 0, .int .i64 0, .int .i64 0, .int .i64 0, .int .i64 0, .int .i64 0, .int .i64 0, .int .i64 0, .int .i64 0, .int .i64 0, .int .i64 0, .int .i64 0, .int .i64 0, .int .i64 0, .int .i64 0, .int .i64 0, .int .i64 0, .int .i64 0, .int .i64 0, .int .i64 0, .int .i64 0, .int .i64 0, .int .i64 0, .int .i64 0, .int .i64 0, .int .i64 0, .int .i64 0, .int .i64 0] 104) = w38 at hb hn ⊢
    have HB38 := Lib.hid (HB37.out.trans (hb.mono HB37.out.size))
    have Ne038 := Lib.hid ((hb.block e0 (Array.getElem?_eq_some_iff.1 Ne037.out).1).trans Ne037.out)
    have Ne138 := Lib.hid ((hb.block e1 (Array.getElem?_eq_some_iff.1 Ne137.out).1).trans Ne137.out)
    have Ne238 := Lib.hid ((hb.block e2 (Array.getElem?_eq_some_iff.1 Ne237.out).1).trans Ne237.out)
    have Ne338 := Lib.hid ((hb.block e3 (Array.getElem?_eq_some_iff.1 Ne337.out).1).trans Ne337.out)
    have Ne438 := Lib.hid ((hb.block e4 (Array.getElem?_eq_some_iff.1 Ne437.out).1).trans Ne437.out)
    have Ne538 := Lib.hid ((hb.block e5 (Array.getElem?_eq_some_iff.1 Ne537.out).1).trans Ne537.out)
    have NG038 := Lib.hid ((hb.block G0 (Array.getElem?_eq_some_iff.1 NG037.out).1).trans NG037.out)
    have NG138 := Lib.hid ((hb.block G1 (Array.getElem?_eq_some_iff.1 NG137.out).1).trans NG137.out)
    have NG238 := Lib.hid ((hb.block G2 (Array.getElem?_eq_some_iff.1 NG237.out).1).trans NG237.out)
    have NG338 := Lib.hid ((hb.block G3 (Array.getElem?_eq_some_iff.1 NG337.out).1).trans NG337.out)
    have NG438 := Lib.hid ((hb.block G4 (Array.getElem?_eq_some_iff.1 NG437.out).1).trans NG437.out)
    have NG538 := Lib.hid ((hb.block G5 (Array.getElem?_eq_some_iff.1 NG537.out).1).trans NG537.out)
    have NBa38 := Lib.hid ((hb.block Ba (Array.getElem?_eq_some_iff.1 NBa37.out).1).trans NBa37.out)
    have NBz38 := Lib.hid hn
    clear hb hn hz HB37 Ne037 Ne137 Ne237 Ne337 Ne437 Ne537 NG037 NG137 NG237 NG337 NG437 NG537 NBa37
    have cG0_0 : w38.cell? ⟨G0, 0, none⟩ = some (.slice (some ⟨e0, 0, none⟩) 6 6) := by simp [World.cell?, NG038.out]
    have cG0_1 : w38.cell? ⟨G0, 1, none⟩ = some (.int .i64 3) := by simp [World.cell?, NG038.out]
    have cG0_2 : w38.cell? ⟨G0, 2, none⟩ = some (.int .i64 1) := by simp [World.cell?, NG038.out]
    have hle := Lib.hid (least_any _ 6 6 3 1 sixL w38 (by omega) rfl (six_angs0 Ne038.out))
    rw [names_least3] at hle
    go_wp2_with fail
    refine (hle.out).mono ?_
    rintro e w39 ⟨rfl, hb⟩
    have HB39 := Lib.hid (HB38.out.trans (hb.mono HB38.out.size))
    have Ne039 := Lib.hid ((hb.block e0 (Array.getElem?_eq_some_iff.1 Ne038.out).1).trans Ne038.out)
    have Ne139 := Lib.hid ((hb.block e1 (Array.getElem?_eq_some_iff.1 Ne138.out).1).trans Ne138.out)
    have Ne239 := Lib.hid ((hb.block e2 (Array.getElem?_eq_some_iff.1 Ne238.out).1).trans Ne238.out)
    have Ne339 := Lib.hid ((hb.block e3 (Array.getElem?_eq_some_iff.1 Ne338.out).1).trans Ne338.out)
    have Ne439 := Lib.hid ((hb.block e4 (Array.getElem?_eq_some_iff.1 Ne438.out).1).trans Ne438.out)
    have Ne539 := Lib.hid ((hb.block e5 (Array.getElem?_eq_some_iff.1 Ne538.out).1).trans Ne538.out)
    have NG039 := Lib.hid ((hb.block G0 (Array.getElem?_eq_some_iff.1 NG038.out).1).trans NG038.out)
    have NG139 := Lib.hid ((hb.block G1 (Array.getElem?_eq_some_iff.1 NG138.out).1).trans NG138.out)
    have NG239 := Lib.hid ((hb.block G2 (Array.getElem?_eq_some_iff.1 NG238.out).1).trans NG238.out)
    have NG339 := Lib.hid ((hb.block G3 (Array.getElem?_eq_some_iff.1 NG338.out).1).trans NG338.out)
    have NG439 := Lib.hid ((hb.block G4 (Array.getElem?_eq_some_iff.1 NG438.out).1).trans NG438.out)
    have NG539 := Lib.hid ((hb.block G5 (Array.getElem?_eq_some_iff.1 NG538.out).1).trans NG538.out)
    have NBa39 := Lib.hid ((hb.block Ba (Array.getElem?_eq_some_iff.1 NBa38.out).1).trans NBa38.out)
    have NBz39 := Lib.hid ((hb.block Bz (Array.getElem?_eq_some_iff.1 NBz38.out).1).trans NBz38.out)
    clear hle cG0_0 cG0_1 cG0_2
    clear hb HB38 Ne038 Ne138 Ne238 Ne338 Ne438 Ne538 NG038 NG138 NG238 NG338 NG438 NG538 NBa38 NBz38
    clear NG039
    clear Ne039
    have cG1_0 : w39.cell? ⟨G1, 0, none⟩ = some (.slice (some ⟨Ba, 0, none⟩) 1 1) := by simp [World.cell?, NG139.out]
    have cG1_1 : w39.cell? ⟨G1, 1, none⟩ = some (.int .i64 0) := by simp [World.cell?, NG139.out]
    have cG1_2 : w39.cell? ⟨G1, 2, none⟩ = some (.int .i64 1) := by simp [World.cell?, NG139.out]
    have hle := Lib.hid (least_any _ 1 1 0 1 aloneL w39 (by omega) rfl (alone_angs NBa39.out))
    rw [names_least1] at hle
    go_wp2_with fail
    refine (hle.out).mono ?_
    rintro e w40 ⟨rfl, hb⟩
    have HB40 := Lib.hid (HB39.out.trans (hb.mono HB39.out.size))
    have Ne140 := Lib.hid ((hb.block e1 (Array.getElem?_eq_some_iff.1 Ne139.out).1).trans Ne139.out)
    have Ne240 := Lib.hid ((hb.block e2 (Array.getElem?_eq_some_iff.1 Ne239.out).1).trans Ne239.out)
    have Ne340 := Lib.hid ((hb.block e3 (Array.getElem?_eq_some_iff.1 Ne339.out).1).trans Ne339.out)
    have Ne440 := Lib.hid ((hb.block e4 (Array.getElem?_eq_some_iff.1 Ne439.out).1).trans Ne439.out)
    have Ne540 := Lib.hid ((hb.block e5 (Array.getElem?_eq_some_iff.1 Ne539.out).1).trans Ne539.out)
    have NG140 := Lib.hid ((hb.block G1 (Array.getElem?_eq_some_iff.1 NG139.out).1).trans NG139.out)
    have NG240 := Lib.hid ((hb.block G2 (Array.getElem?_eq_some_iff.1 NG239.out).1).trans NG239.out)
    have NG340 := Lib.hid ((hb.block G3 (Array.getElem?_eq_some_iff.1 NG339.out).1).trans NG339.out)
    have NG440 := Lib.hid ((hb.block G4 (Array.getElem?_eq_some_iff.1 NG439.out).1).trans NG439.out)
    have NG540 := Lib.hid ((hb.block G5 (Array.getElem?_eq_some_iff.1 NG539.out).1).trans NG539.out)
    have NBa40 := Lib.hid ((hb.block Ba (Array.getElem?_eq_some_iff.1 NBa39.out).1).trans NBa39.out)
    have NBz40 := Lib.hid ((hb.block Bz (Array.getElem?_eq_some_iff.1 NBz39.out).1).trans NBz39.out)
    clear hle cG1_0 cG1_1 cG1_2
    clear hb HB39 Ne139 Ne239 Ne339 Ne439 Ne539 NG139 NG239 NG339 NG439 NG539 NBa39 NBz39
    have cG1_0 : w40.cell? ⟨G1, 0, none⟩ = some (.slice (some ⟨Ba, 0, none⟩) 1 1) := by simp [World.cell?, NG140.out]
    have cG1_1 : w40.cell? ⟨G1, 1, none⟩ = some (.int .i64 0) := by simp [World.cell?, NG140.out]
    have cG1_2 : w40.cell? ⟨G1, 2, none⟩ = some (.int .i64 1) := by simp [World.cell?, NG140.out]
    have hpv := Lib.hid (prove_yes (cap := 1) (n := 1) (by omega) rfl (alone_angs NBa40.out) names_sure40)
    go_wp2_with fail
    refine (hpv.out).mono ?_
    rintro e w41 ⟨At3, Ac3, tc3, cc3, ts3, cs3, rfl, hIt, hIc, ht3, hc3, hpr, hb⟩
    have HB41 := Lib.hid (HB40.out.trans (hb.mono HB40.out.size))
    have Ne141 := Lib.hid ((hb.block e1 (Array.getElem?_eq_some_iff.1 Ne140.out).1).trans Ne140.out)
    have Ne241 := Lib.hid ((hb.block e2 (Array.getElem?_eq_some_iff.1 Ne240.out).1).trans Ne240.out)
    have Ne341 := Lib.hid ((hb.block e3 (Array.getElem?_eq_some_iff.1 Ne340.out).1).trans Ne340.out)
    have Ne441 := Lib.hid ((hb.block e4 (Array.getElem?_eq_some_iff.1 Ne440.out).1).trans Ne440.out)
    have Ne541 := Lib.hid ((hb.block e5 (Array.getElem?_eq_some_iff.1 Ne540.out).1).trans Ne540.out)
    have NG141 := Lib.hid ((hb.block G1 (Array.getElem?_eq_some_iff.1 NG140.out).1).trans NG140.out)
    have NG241 := Lib.hid ((hb.block G2 (Array.getElem?_eq_some_iff.1 NG240.out).1).trans NG240.out)
    have NG341 := Lib.hid ((hb.block G3 (Array.getElem?_eq_some_iff.1 NG340.out).1).trans NG340.out)
    have NG441 := Lib.hid ((hb.block G4 (Array.getElem?_eq_some_iff.1 NG440.out).1).trans NG440.out)
    have NG541 := Lib.hid ((hb.block G5 (Array.getElem?_eq_some_iff.1 NG540.out).1).trans NG540.out)
    have NBa41 := Lib.hid ((hb.block Ba (Array.getElem?_eq_some_iff.1 NBa40.out).1).trans NBa40.out)
    have NBz41 := Lib.hid ((hb.block Bz (Array.getElem?_eq_some_iff.1 NBz40.out).1).trans NBz40.out)
    obtain ⟨rfl, rfl⟩ := names_cutc hpr
    have FD41 := Lib.hid hIc
    clear hIt hIc hpr hpv ht3 hc3 cG1_0 cG1_1 cG1_2
    clear hb HB40 Ne140 Ne240 Ne340 Ne440 Ne540 NG140 NG240 NG340 NG440 NG540 NBa40 NBz40
    have lG1 := (Array.getElem?_eq_some_iff.1 NG141.out).1
    have lBa := (Array.getElem?_eq_some_iff.1 NBa41.out).1
    have cG1_0 : w41.cell? ⟨G1, 0, none⟩ = some (.slice (some ⟨Ba, 0, none⟩) 1 1) := by simp [World.cell?, NG141.out]
    have cG1_1 : w41.cell? ⟨G1, 1, none⟩ = some (.int .i64 0) := by simp [World.cell?, NG141.out]
    have cG1_2 : w41.cell? ⟨G1, 2, none⟩ = some (.int .i64 1) := by simp [World.cell?, NG141.out]
    go_wp2_with fail
    have hb : Below w41.heap.size w41 (w41.alloc (.cells #[.slice At3 0 tc3, .slice Ac3 1 cc3] 37)) := (Below.refl _ _).alloc (Nat.le_refl _) _
    have hn := Go.heap_alloc_new w41 (.cells #[.slice At3 0 tc3, .slice Ac3 1 cc3] 37)
    have hz : (w41.alloc (.cells #[.slice At3 0 tc3, .slice Ac3 1 cc3] 37)).heap.size = w41.heap.size + 1 := by simp
    obtain ⟨Bk, hBk⟩ : ∃ x, w41.heap.size = x := ⟨_, rfl⟩
    have oBk : w.heap.size ≤ Bk := by have := HB41.out.size; omega
    have oe1Bk : e1 < Bk := by have := (Array.getElem?_eq_some_iff.1 Ne141.out).1; omega
    have oe2Bk : e2 < Bk := by have := (Array.getElem?_eq_some_iff.1 Ne241.out).1; omega
    have oe3Bk : e3 < Bk := by have := (Array.getElem?_eq_some_iff.1 Ne341.out).1; omega
    have oe4Bk : e4 < Bk := by have := (Array.getElem?_eq_some_iff.1 Ne441.out).1; omega
    have oe5Bk : e5 < Bk := by have := (Array.getElem?_eq_some_iff.1 Ne541.out).1; omega
    have oG1Bk : G1 < Bk := by have := (Array.getElem?_eq_some_iff.1 NG141.out).1; omega
    have oG2Bk : G2 < Bk := by have := (Array.getElem?_eq_some_iff.1 NG241.out).1; omega
    have oG3Bk : G3 < Bk := by have := (Array.getElem?_eq_some_iff.1 NG341.out).1; omega
    have oG4Bk : G4 < Bk := by have := (Array.getElem?_eq_some_iff.1 NG441.out).1; omega
    have oG5Bk : G5 < Bk := by have := (Array.getElem?_eq_some_iff.1 NG541.out).1; omega
    have oBaBk : Ba < Bk := by have := (Array.getElem?_eq_some_iff.1 NBa41.out).1; omega
    have oBzBk : Bz < Bk := by have := (Array.getElem?_eq_some_iff.1 NBz41.out).1; omega
    generalize w41.alloc (.cells #[.slice At3 0 tc3, .slice Ac3 1 cc3] 37) = w42 at hb hn hz ⊢
    rw [hBk] at hn hz
    rw [hBk]
    have zBk := hz
    have HB42 := Lib.hid (HB41.out.trans (hb.mono HB41.out.size))
    have FD42 := Lib.hid (FD41.out.keep hb (Nat.le_refl _))
    have Ne142 := Lib.hid ((hb.block e1 (Array.getElem?_eq_some_iff.1 Ne141.out).1).trans Ne141.out)
    have Ne242 := Lib.hid ((hb.block e2 (Array.getElem?_eq_some_iff.1 Ne241.out).1).trans Ne241.out)
    have Ne342 := Lib.hid ((hb.block e3 (Array.getElem?_eq_some_iff.1 Ne341.out).1).trans Ne341.out)
    have Ne442 := Lib.hid ((hb.block e4 (Array.getElem?_eq_some_iff.1 Ne441.out).1).trans Ne441.out)
    have Ne542 := Lib.hid ((hb.block e5 (Array.getElem?_eq_some_iff.1 Ne541.out).1).trans Ne541.out)
    have NG142 := Lib.hid ((hb.block G1 (Array.getElem?_eq_some_iff.1 NG141.out).1).trans NG141.out)
    have NG242 := Lib.hid ((hb.block G2 (Array.getElem?_eq_some_iff.1 NG241.out).1).trans NG241.out)
    have NG342 := Lib.hid ((hb.block G3 (Array.getElem?_eq_some_iff.1 NG341.out).1).trans NG341.out)
    have NG442 := Lib.hid ((hb.block G4 (Array.getElem?_eq_some_iff.1 NG441.out).1).trans NG441.out)
    have NG542 := Lib.hid ((hb.block G5 (Array.getElem?_eq_some_iff.1 NG541.out).1).trans NG541.out)
    have NBa42 := Lib.hid ((hb.block Ba (Array.getElem?_eq_some_iff.1 NBa41.out).1).trans NBa41.out)
    have NBz42 := Lib.hid ((hb.block Bz (Array.getElem?_eq_some_iff.1 NBz41.out).1).trans NBz41.out)
    have NBk42 := Lib.hid hn
    clear hb hn hz hBk  HB41 FD41 Ne141 Ne241 Ne341 Ne441 Ne541 NG141 NG241 NG341 NG441 NG541 NBa41 NBz41
    clear lG1 lBa zBk cG1_0 cG1_1 cG1_2
    have cG1_0 : w42.cell? ⟨G1, 0, none⟩ = some (.slice (some ⟨Ba, 0, none⟩) 1 1) := by simp [World.cell?, NG142.out]
    have cG1_1 : w42.cell? ⟨G1, 1, none⟩ = some (.int .i64 0) := by simp [World.cell?, NG142.out]
    have cG1_2 : w42.cell? ⟨G1, 2, none⟩ = some (.int .i64 1) := by simp [World.cell?, NG142.out]
    have hct := Lib.hid (control_no (cap := 1) (n := 1) (by omega) rfl (alone_angs NBa42.out) (show sureL aloneL 0 1 40 ≠ 0 by rw [names_sure40]; simp))
    rw [names_sure40] at hct
    go_wp2_with fail
    refine (hct.out).mono ?_
    rintro e w43 ⟨rfl, hb⟩
    have HB43 := Lib.hid (HB42.out.trans (hb.mono HB42.out.size))
    have FD43 := Lib.hid (FD42.out.keep hb (Nat.le_refl _))
    have Ne143 := Lib.hid ((hb.block e1 (Array.getElem?_eq_some_iff.1 Ne142.out).1).trans Ne142.out)
    have Ne243 := Lib.hid ((hb.block e2 (Array.getElem?_eq_some_iff.1 Ne242.out).1).trans Ne242.out)
    have Ne343 := Lib.hid ((hb.block e3 (Array.getElem?_eq_some_iff.1 Ne342.out).1).trans Ne342.out)
    have Ne443 := Lib.hid ((hb.block e4 (Array.getElem?_eq_some_iff.1 Ne442.out).1).trans Ne442.out)
    have Ne543 := Lib.hid ((hb.block e5 (Array.getElem?_eq_some_iff.1 Ne542.out).1).trans Ne542.out)
    have NG143 := Lib.hid ((hb.block G1 (Array.getElem?_eq_some_iff.1 NG142.out).1).trans NG142.out)
    have NG243 := Lib.hid ((hb.block G2 (Array.getElem?_eq_some_iff.1 NG242.out).1).trans NG242.out)
    have NG343 := Lib.hid ((hb.block G3 (Array.getElem?_eq_some_iff.1 NG342.out).1).trans NG342.out)
    have NG443 := Lib.hid ((hb.block G4 (Array.getElem?_eq_some_iff.1 NG442.out).1).trans NG442.out)
    have NG543 := Lib.hid ((hb.block G5 (Array.getElem?_eq_some_iff.1 NG542.out).1).trans NG542.out)
    have NBa43 := Lib.hid ((hb.block Ba (Array.getElem?_eq_some_iff.1 NBa42.out).1).trans NBa42.out)
    have NBz43 := Lib.hid ((hb.block Bz (Array.getElem?_eq_some_iff.1 NBz42.out).1).trans NBz42.out)
    have NBk43 := Lib.hid ((hb.block Bk (Array.getElem?_eq_some_iff.1 NBk42.out).1).trans NBk42.out)
    clear hct cG1_0 cG1_1 cG1_2
    clear hb HB42 FD42 Ne142 Ne242 Ne342 Ne442 Ne542 NG142 NG242 NG342 NG442 NG542 NBa42 NBz42 NBk42
    clear NG143
    clear NBa43
    have kb0 : w43.cell? ⟨Bk, 0, none⟩ = some (.slice At3 0 tc3) := by simp [World.cell?, NBk43.out]
    have kb1 : w43.cell? ⟨Bk, 1, none⟩ = some (.slice Ac3 1 cc3) := by simp [World.cell?, NBk43.out]
    have hal : Below w43.heap.size w43 (w43.alloc (.cells #[.int .i64 0] 3)) := (Below.refl _ _).alloc (Nat.le_refl _) _
    have hin := Lib.hid (ints_any (.slice Ac3 1 cc3) (.slice (some ⟨w43.heap.size, 0, none⟩) 1 1) [0] [0] _ (FD43.out.keep hal (Nat.le_refl _)) (ints_new w43 [0]) (by simp))
    rw [show decide (([0] : List Int) = [0]) = true from rfl] at hin
    go_wp2_with fail
    refine hin.out.mono ?_
    rintro e w44 ⟨rfl, hb'⟩
    have hb := hal.trans (hb'.mono hal.size)
    have HB44 := Lib.hid (HB43.out.trans (hb.mono HB43.out.size))
    have Ne144 := Lib.hid ((hb.block e1 (Array.getElem?_eq_some_iff.1 Ne143.out).1).trans Ne143.out)
    have Ne244 := Lib.hid ((hb.block e2 (Array.getElem?_eq_some_iff.1 Ne243.out).1).trans Ne243.out)
    have Ne344 := Lib.hid ((hb.block e3 (Array.getElem?_eq_some_iff.1 Ne343.out).1).trans Ne343.out)
    have Ne444 := Lib.hid ((hb.block e4 (Array.getElem?_eq_some_iff.1 Ne443.out).1).trans Ne443.out)
    have Ne544 := Lib.hid ((hb.block e5 (Array.getElem?_eq_some_iff.1 Ne543.out).1).trans Ne543.out)
    have NG244 := Lib.hid ((hb.block G2 (Array.getElem?_eq_some_iff.1 NG243.out).1).trans NG243.out)
    have NG344 := Lib.hid ((hb.block G3 (Array.getElem?_eq_some_iff.1 NG343.out).1).trans NG343.out)
    have NG444 := Lib.hid ((hb.block G4 (Array.getElem?_eq_some_iff.1 NG443.out).1).trans NG443.out)
    have NG544 := Lib.hid ((hb.block G5 (Array.getElem?_eq_some_iff.1 NG543.out).1).trans NG543.out)
    have NBz44 := Lib.hid ((hb.block Bz (Array.getElem?_eq_some_iff.1 NBz43.out).1).trans NBz43.out)
    have NBk44 := Lib.hid ((hb.block Bk (Array.getElem?_eq_some_iff.1 NBk43.out).1).trans NBk43.out)
    clear hb hb' hal hin kb0 kb1 FD43 HB43 Ne143 Ne243 Ne343 Ne443 Ne543 NG243 NG343 NG443 NG543 NBz43 NBk43
    have cG2_0 : w44.cell? ⟨G2, 0, none⟩ = some (.slice (some ⟨e2, 0, none⟩) 6 6) := by simp [World.cell?, NG244.out]
    have cG2_1 : w44.cell? ⟨G2, 1, none⟩ = some (.int .i64 2) := by simp [World.cell?, NG244.out]
    have cG2_2 : w44.cell? ⟨G2, 2, none⟩ = some (.int .i64 1) := by simp [World.cell?, NG244.out]
    have hck := Lib.hid (checkNet_any (some ⟨e2, 0, none⟩) 6 6 2 1 wrongL w44 (by omega) rfl (six_angs Ne244.out))
    rw [names_wrong] at hck
    go_wp2_with fail
    refine (hck.out).mono ?_
    rintro e w45 ⟨rfl, hb⟩
    have HB45 := Lib.hid (HB44.out.trans (hb.mono HB44.out.size))
    have Ne145 := Lib.hid ((hb.block e1 (Array.getElem?_eq_some_iff.1 Ne144.out).1).trans Ne144.out)
    have Ne245 := Lib.hid ((hb.block e2 (Array.getElem?_eq_some_iff.1 Ne244.out).1).trans Ne244.out)
    have Ne345 := Lib.hid ((hb.block e3 (Array.getElem?_eq_some_iff.1 Ne344.out).1).trans Ne344.out)
    have Ne445 := Lib.hid ((hb.block e4 (Array.getElem?_eq_some_iff.1 Ne444.out).1).trans Ne444.out)
    have Ne545 := Lib.hid ((hb.block e5 (Array.getElem?_eq_some_iff.1 Ne544.out).1).trans Ne544.out)
    have NG245 := Lib.hid ((hb.block G2 (Array.getElem?_eq_some_iff.1 NG244.out).1).trans NG244.out)
    have NG345 := Lib.hid ((hb.block G3 (Array.getElem?_eq_some_iff.1 NG344.out).1).trans NG344.out)
    have NG445 := Lib.hid ((hb.block G4 (Array.getElem?_eq_some_iff.1 NG444.out).1).trans NG444.out)
    have NG545 := Lib.hid ((hb.block G5 (Array.getElem?_eq_some_iff.1 NG544.out).1).trans NG544.out)
    have NBz45 := Lib.hid ((hb.block Bz (Array.getElem?_eq_some_iff.1 NBz44.out).1).trans NBz44.out)
    have NBk45 := Lib.hid ((hb.block Bk (Array.getElem?_eq_some_iff.1 NBk44.out).1).trans NBk44.out)
    clear hck cG2_0 cG2_1 cG2_2
    clear hb HB44 Ne144 Ne244 Ne344 Ne444 Ne544 NG244 NG344 NG444 NG544 NBz44 NBk44
    have cG3_0 : w45.cell? ⟨G3, 0, none⟩ = some (.slice (some ⟨e3, 0, none⟩) 6 6) := by simp [World.cell?, NG345.out]
    have cG3_1 : w45.cell? ⟨G3, 1, none⟩ = some (.int .i64 2) := by simp [World.cell?, NG345.out]
    have cG3_2 : w45.cell? ⟨G3, 2, none⟩ = some (.int .i64 1) := by simp [World.cell?, NG345.out]
    have hck := Lib.hid (checkNet_any (some ⟨e3, 0, none⟩) 6 6 2 1 weightL w45 (by omega) rfl (six_angs Ne345.out))
    rw [names_weight] at hck
    go_wp2_with fail
    refine (hck.out).mono ?_
    rintro e w46 ⟨rfl, hb⟩
    have HB46 := Lib.hid (HB45.out.trans (hb.mono HB45.out.size))
    have Ne146 := Lib.hid ((hb.block e1 (Array.getElem?_eq_some_iff.1 Ne145.out).1).trans Ne145.out)
    have Ne246 := Lib.hid ((hb.block e2 (Array.getElem?_eq_some_iff.1 Ne245.out).1).trans Ne245.out)
    have Ne346 := Lib.hid ((hb.block e3 (Array.getElem?_eq_some_iff.1 Ne345.out).1).trans Ne345.out)
    have Ne446 := Lib.hid ((hb.block e4 (Array.getElem?_eq_some_iff.1 Ne445.out).1).trans Ne445.out)
    have Ne546 := Lib.hid ((hb.block e5 (Array.getElem?_eq_some_iff.1 Ne545.out).1).trans Ne545.out)
    have NG246 := Lib.hid ((hb.block G2 (Array.getElem?_eq_some_iff.1 NG245.out).1).trans NG245.out)
    have NG346 := Lib.hid ((hb.block G3 (Array.getElem?_eq_some_iff.1 NG345.out).1).trans NG345.out)
    have NG446 := Lib.hid ((hb.block G4 (Array.getElem?_eq_some_iff.1 NG445.out).1).trans NG445.out)
    have NG546 := Lib.hid ((hb.block G5 (Array.getElem?_eq_some_iff.1 NG545.out).1).trans NG545.out)
    have NBz46 := Lib.hid ((hb.block Bz (Array.getElem?_eq_some_iff.1 NBz45.out).1).trans NBz45.out)
    have NBk46 := Lib.hid ((hb.block Bk (Array.getElem?_eq_some_iff.1 NBk45.out).1).trans NBk45.out)
    clear hck cG3_0 cG3_1 cG3_2
    clear hb HB45 Ne145 Ne245 Ne345 Ne445 Ne545 NG245 NG345 NG445 NG545 NBz45 NBk45
    have cG4_0 : w46.cell? ⟨G4, 0, none⟩ = some (.slice (some ⟨e4, 0, none⟩) 6 6) := by simp [World.cell?, NG446.out]
    have cG4_1 : w46.cell? ⟨G4, 1, none⟩ = some (.int .i64 2) := by simp [World.cell?, NG446.out]
    have cG4_2 : w46.cell? ⟨G4, 2, none⟩ = some (.int .i64 6) := by simp [World.cell?, NG446.out]
    have hck := Lib.hid (checkNet_any (some ⟨e4, 0, none⟩) 6 6 2 6 sixL w46 (by omega) rfl (six_angs0 Ne446.out))
    rw [names_many] at hck
    go_wp2_with fail
    refine (hck.out).mono ?_
    rintro e w47 ⟨rfl, hb⟩
    have HB47 := Lib.hid (HB46.out.trans (hb.mono HB46.out.size))
    have Ne147 := Lib.hid ((hb.block e1 (Array.getElem?_eq_some_iff.1 Ne146.out).1).trans Ne146.out)
    have Ne247 := Lib.hid ((hb.block e2 (Array.getElem?_eq_some_iff.1 Ne246.out).1).trans Ne246.out)
    have Ne347 := Lib.hid ((hb.block e3 (Array.getElem?_eq_some_iff.1 Ne346.out).1).trans Ne346.out)
    have Ne447 := Lib.hid ((hb.block e4 (Array.getElem?_eq_some_iff.1 Ne446.out).1).trans Ne446.out)
    have Ne547 := Lib.hid ((hb.block e5 (Array.getElem?_eq_some_iff.1 Ne546.out).1).trans Ne546.out)
    have NG247 := Lib.hid ((hb.block G2 (Array.getElem?_eq_some_iff.1 NG246.out).1).trans NG246.out)
    have NG347 := Lib.hid ((hb.block G3 (Array.getElem?_eq_some_iff.1 NG346.out).1).trans NG346.out)
    have NG447 := Lib.hid ((hb.block G4 (Array.getElem?_eq_some_iff.1 NG446.out).1).trans NG446.out)
    have NG547 := Lib.hid ((hb.block G5 (Array.getElem?_eq_some_iff.1 NG546.out).1).trans NG546.out)
    have NBz47 := Lib.hid ((hb.block Bz (Array.getElem?_eq_some_iff.1 NBz46.out).1).trans NBz46.out)
    have NBk47 := Lib.hid ((hb.block Bk (Array.getElem?_eq_some_iff.1 NBk46.out).1).trans NBk46.out)
    clear hck cG4_0 cG4_1 cG4_2
    clear hb HB46 Ne146 Ne246 Ne346 Ne446 Ne546 NG246 NG346 NG446 NG546 NBz46 NBk46
    have cG5_0 : w47.cell? ⟨G5, 0, none⟩ = some (.slice (some ⟨Bz, 0, none⟩) 13 13) := by simp [World.cell?, NG547.out]
    have cG5_1 : w47.cell? ⟨G5, 1, none⟩ = some (.int .i64 2) := by simp [World.cell?, NG547.out]
    have cG5_2 : w47.cell? ⟨G5, 2, none⟩ = some (.int .i64 1) := by simp [World.cell?, NG547.out]
    have hck := Lib.hid (checkNet_any (some ⟨Bz, 0, none⟩) 13 13 2 1 (List.replicate 13 ⟨0, 0, 0, 0⟩) w47 (by omega) rfl (big_angs NBz47.out))
    rw [names_big] at hck
    go_wp2_with fail
    refine (hck.out).mono ?_
    rintro e w48 ⟨rfl, hb⟩
    have HB48 := Lib.hid (HB47.out.trans (hb.mono HB47.out.size))
    have Ne148 := Lib.hid ((hb.block e1 (Array.getElem?_eq_some_iff.1 Ne147.out).1).trans Ne147.out)
    have Ne248 := Lib.hid ((hb.block e2 (Array.getElem?_eq_some_iff.1 Ne247.out).1).trans Ne247.out)
    have Ne348 := Lib.hid ((hb.block e3 (Array.getElem?_eq_some_iff.1 Ne347.out).1).trans Ne347.out)
    have Ne448 := Lib.hid ((hb.block e4 (Array.getElem?_eq_some_iff.1 Ne447.out).1).trans Ne447.out)
    have Ne548 := Lib.hid ((hb.block e5 (Array.getElem?_eq_some_iff.1 Ne547.out).1).trans Ne547.out)
    have NG248 := Lib.hid ((hb.block G2 (Array.getElem?_eq_some_iff.1 NG247.out).1).trans NG247.out)
    have NG348 := Lib.hid ((hb.block G3 (Array.getElem?_eq_some_iff.1 NG347.out).1).trans NG347.out)
    have NG448 := Lib.hid ((hb.block G4 (Array.getElem?_eq_some_iff.1 NG447.out).1).trans NG447.out)
    have NG548 := Lib.hid ((hb.block G5 (Array.getElem?_eq_some_iff.1 NG547.out).1).trans NG547.out)
    have NBz48 := Lib.hid ((hb.block Bz (Array.getElem?_eq_some_iff.1 NBz47.out).1).trans NBz47.out)
    have NBk48 := Lib.hid ((hb.block Bk (Array.getElem?_eq_some_iff.1 NBk47.out).1).trans NBk47.out)
    clear hck cG5_0 cG5_1 cG5_2
    clear hb HB47 Ne147 Ne247 Ne347 Ne447 Ne547 NG247 NG347 NG447 NG547 NBz47 NBk47
    have hck := Lib.hid (checkNet_any none 0 0 0 0 [] w48 (by omega) rfl (.inl rfl))
    rw [names_none] at hck
    go_wp2_with fail
    refine (hck.out).mono ?_
    rintro e w49 ⟨rfl, hb⟩
    have HB49 := Lib.hid (HB48.out.trans (hb.mono HB48.out.size))
    have Ne149 := Lib.hid ((hb.block e1 (Array.getElem?_eq_some_iff.1 Ne148.out).1).trans Ne148.out)
    have Ne249 := Lib.hid ((hb.block e2 (Array.getElem?_eq_some_iff.1 Ne248.out).1).trans Ne248.out)
    have Ne349 := Lib.hid ((hb.block e3 (Array.getElem?_eq_some_iff.1 Ne348.out).1).trans Ne348.out)
    have Ne449 := Lib.hid ((hb.block e4 (Array.getElem?_eq_some_iff.1 Ne448.out).1).trans Ne448.out)
    have Ne549 := Lib.hid ((hb.block e5 (Array.getElem?_eq_some_iff.1 Ne548.out).1).trans Ne548.out)
    have NG249 := Lib.hid ((hb.block G2 (Array.getElem?_eq_some_iff.1 NG248.out).1).trans NG248.out)
    have NG349 := Lib.hid ((hb.block G3 (Array.getElem?_eq_some_iff.1 NG348.out).1).trans NG348.out)
    have NG449 := Lib.hid ((hb.block G4 (Array.getElem?_eq_some_iff.1 NG448.out).1).trans NG448.out)
    have NG549 := Lib.hid ((hb.block G5 (Array.getElem?_eq_some_iff.1 NG548.out).1).trans NG548.out)
    have NBz49 := Lib.hid ((hb.block Bz (Array.getElem?_eq_some_iff.1 NBz48.out).1).trans NBz48.out)
    have NBk49 := Lib.hid ((hb.block Bk (Array.getElem?_eq_some_iff.1 NBk48.out).1).trans NBk48.out)
    clear hck
    clear hb HB48 Ne148 Ne248 Ne348 Ne448 Ne548 NG248 NG348 NG448 NG548 NBz48 NBk48
    go_wp2_with fail
    refine (awake_any _).mono ?_
    rintro e w50 ⟨rfl, hb⟩
    have HB50 := Lib.hid (HB49.out.trans (hb.mono HB49.out.size))
    have Ne150 := Lib.hid ((hb.block e1 (Array.getElem?_eq_some_iff.1 Ne149.out).1).trans Ne149.out)
    have Ne250 := Lib.hid ((hb.block e2 (Array.getElem?_eq_some_iff.1 Ne249.out).1).trans Ne249.out)
    have Ne350 := Lib.hid ((hb.block e3 (Array.getElem?_eq_some_iff.1 Ne349.out).1).trans Ne349.out)
    have Ne450 := Lib.hid ((hb.block e4 (Array.getElem?_eq_some_iff.1 Ne449.out).1).trans Ne449.out)
    have Ne550 := Lib.hid ((hb.block e5 (Array.getElem?_eq_some_iff.1 Ne549.out).1).trans Ne549.out)
    have NG250 := Lib.hid ((hb.block G2 (Array.getElem?_eq_some_iff.1 NG249.out).1).trans NG249.out)
    have NG350 := Lib.hid ((hb.block G3 (Array.getElem?_eq_some_iff.1 NG349.out).1).trans NG349.out)
    have NG450 := Lib.hid ((hb.block G4 (Array.getElem?_eq_some_iff.1 NG449.out).1).trans NG449.out)
    have NG550 := Lib.hid ((hb.block G5 (Array.getElem?_eq_some_iff.1 NG549.out).1).trans NG549.out)
    have NBz50 := Lib.hid ((hb.block Bz (Array.getElem?_eq_some_iff.1 NBz49.out).1).trans NBz49.out)
    have NBk50 := Lib.hid ((hb.block Bk (Array.getElem?_eq_some_iff.1 NBk49.out).1).trans NBk49.out)
    clear hb HB49 Ne149 Ne249 Ne349 Ne449 Ne549 NG249 NG349 NG449 NG549 NBz49 NBk49
    go_wp2_with fail
    go_ret
    exact ⟨rfl, HB50.out⟩
end Go.Proofs.Ytkloaeaepjoijaa

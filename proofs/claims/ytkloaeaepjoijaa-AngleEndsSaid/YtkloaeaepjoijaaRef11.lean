/-
  The reference: Controlled.
-/
import Derived.Test.YtkloaeaepjoijaaRef10
set_option linter.all false
namespace Go.Proofs.Ytkloaeaepjoijaa
open Go.RowKit Go.WalkArith

theorem bitsL_one {k : Nat} (hk : k < 16) : bitsL (2 ^ k) = [(k : Int)] := by
  have key : ∀ y : Fin 16, bitsL (2 ^ y.1) = [((y.1 : Nat) : Int)] := by decide +kernel
  exact key ⟨k, hk⟩

theorem shl_raw12 {p : Nat} (hp : p ≤ 12) : IntKind.i64.wrap (2 ^ min (IntKind.u64.wrap (p : Int)).toNat 64) = ((2 ^ p : Nat) : Int) := by
  have key : ∀ y : Fin 13, IntKind.i64.wrap (2 ^ min (IntKind.u64.wrap ((y.1 : Nat) : Int)).toNat 64) = ((2 ^ y.1 : Nat) : Int) := by decide +kernel
  exact key ⟨p, by omega⟩

theorem hasP_left {b o n cap : Nat} {T C err : Int} {l : List Ang} {w : World} {rs : Value} {out : List Int} (k : Nat) (hk : k < l.length) (hl : l.length = n) (hok : NetOk l T C) (hA : AngsAt w (some ⟨b, o, none⟩) l) (he0 : 0 ≤ err) (hc : canE l T C err out = true) :
    HasP (pointB l T C (roomLo l err out) (roomHi l err out) k) (roomLo l err out k) (roomHi l err out k) := by
  obtain ⟨rv, hrv⟩ : ∃ rv : Array Value, RoomsV rv (roomLo l err out) (roomHi l err out) := by
    obtain ⟨e, w', fr, ⟨rs, _, hr, _⟩, _⟩ := rooms_any b o n cap T C l 0 (.slice none 0 0) [] w hl hok hA (by omega) (by omega) (IntsAt.nil _) (by simp) []
    refine ⟨((List.range 12).flatMap fun i : Nat => [.int .i64 (roomLo l err out i), .int .i64 (roomHi l err out i)]).toArray, ?_, ?_, ?_⟩
    · have h1 := hr.size
      have h2 : (Try.prog.info? 109).map (·.size) = some 24 := by kernel_rfl
      rw [h2]; rfl
    · intro i hi
      have := (flatR_get (roomLo l err out) (roomHi l err out) 12 i hi).1
      simpa [flatR] using this
    · intro i hi
      have := (flatR_get (roomLo l err out) (roomHi l err out) 12 i hi).2
      simpa [flatR] using this
  obtain ⟨x, hx⟩ := truth_exists b o n cap T C l rv _ _ w hl hok hA hrv (hl ▸ rooms_ok hok he0 out) hc
  exact ⟨x k, point_of_truth hok hx hk⟩

set_option maxRecDepth 100000 in
set_option maxHeartbeats 4000000 in
theorem refControlled_any (b o n cap k : Nat) (T C err : Int) (l : List Ang) (w : World) (hl : l.length = n) (hok : NetOk l T C) (hA : AngsAt w (some ⟨b, o, none⟩) l) (he0 : 0 ≤ err) (he1 : err ≤ 40) (hk : k < n) (hc : canE l T C err [] = true) :
    Calls Try.prog 41 #[.agg #[.slice (some ⟨b, o, none⟩) n cap, .int .i64 T, .int .i64 C], .int .i64 err, .int .i64 k] w fun e w' => e = .returned (.bool (ctlB l T C err k)) ∧ Below w.heap.size w w' := by
  have hn12 : n ≤ 12 := by rw [← hl]; exact hok.len
  have hlk : k < l.length := by omega
  have hHP := Lib.hid (hasP_left (cap := cap) (rs := .bool true) k hlk hl hok hA he0 (can_left hok he0 hc [(k : Int)]))
  have hB : Below w.heap.size w (w.alloc (.cells #[.slice (some ⟨b, o, none⟩) n cap, .int .i64 T, .int .i64 C] 24)) := (Below.refl _ _).alloc (Nat.le_refl _) _
  have hn0 := Go.heap_alloc_new w (.cells #[.slice (some ⟨b, o, none⟩) n cap, .int .i64 T, .int .i64 C] 24)
  have hAx := hA.keep hB (Nat.le_refl _)
  have hsp := shl_raw12 (p := k) (by omega)
  have hb1 := bitsL_one (k := k) (by omega)
  have P0 : 2 ^ k < 65536 := Nat.lt_of_le_of_lt (Nat.pow_le_pow_right (n := 2) (by omega) (by omega : k ≤ 12)) (by omega)
  obtain ⟨N, hN⟩ : ∃ N : Nat, 2 ^ k = N := ⟨_, rfl⟩
  have hsp2 := hsp
  rw [hN] at hsp2
  rw [hN] at hb1 P0
  clear hsp hN
  have hr := refRooms_any b o n cap T C err l N (w.alloc (.cells #[.slice (some ⟨b, o, none⟩) n cap, .int .i64 T, .int .i64 C] 24)).drew hl hok hAx he0 he1 P0
  rw [hb1] at hr
  have HRR := Lib.hid hr
  have HB := Lib.hid hB
  have HA := Lib.hid hAx
  have HL := Lib.hid hl
  have HO := Lib.hid hok
  have k0 : (0 : Int) ≤ (k : Int) := by omega
  have x0 : (w.alloc (.cells #[.slice (some ⟨b, o, none⟩) n cap, .int .i64 T, .int .i64 C] 24)).cell? ⟨w.heap.size, 0, none⟩ = some (.slice (some ⟨b, o, none⟩) n cap) := by simp only [World.cell?, hn0]; rfl
  have x1 : (w.alloc (.cells #[.slice (some ⟨b, o, none⟩) n cap, .int .i64 T, .int .i64 C] 24)).cell? ⟨w.heap.size, 1, none⟩ = some (.int .i64 T) := by simp only [World.cell?, hn0]; rfl
  have x2 : (w.alloc (.cells #[.slice (some ⟨b, o, none⟩) n cap, .int .i64 T, .int .i64 C] 24)).cell? ⟨w.heap.size, 2, none⟩ = some (.int .i64 C) := by simp only [World.cell?, hn0]; rfl
  clear hB hn0 hA hl hok hAx hr hc hb1
  go_enter Try.func41, Try.ntmps41
  go_wp2_with fail
  generalize w.alloc (.cells #[.slice (some ⟨b, o, none⟩) n cap, .int .i64 T, .int .i64 C] 24) = w1 at HB HA HRR x0 x1 x2 ⊢
  refine wp_region_held_drew (S := fun X => X.cell? ⟨w.heap.size, 0, none⟩ = some (.slice (some ⟨b, o, none⟩) n cap) ∧ X.cell? ⟨w.heap.size, 1, none⟩ = some (.int .i64 T) ∧ X.cell? ⟨w.heap.size, 2, none⟩ = some (.int .i64 C)) (by kernel_rfl) (⟨x0, x1, x2⟩) (fun hS0 => ?_)
  refine wpAnyH_take (i := 0) (oi := { dst := some 7, op := Op.load 24 (Operand.tmp 3), type := 24, pos := "ref.go:114", after := #[], guard := none }) (v := ?_) rfl (by kernel_rfl) (by kernel_rfl) (by kernel_rfl) (fun _ _ _ h => h) (Or.inl ⟨by rfl, ?_⟩) hS0 ?_
  rotate_left
  · intro X hX
    obtain ⟨x0, x1, x2⟩ := hX
    go_simp
    try with_reducible rfl
  simp only [Act.put, List.setIfInBounds_toArray, List.set_cons_zero, List.set_cons_succ, Array.toArray_toList]
  refine wpAnyH_take (i := 1) (oi := { dst := some 8, op := Op.load 24 (Operand.tmp 3), type := 24, pos := "ref.go:114", after := #[], guard := none }) (v := ?_) rfl (by kernel_rfl) (by kernel_rfl) (by kernel_rfl) (fun _ _ _ h => h) (Or.inl ⟨by rfl, ?_⟩) hS0 ?_
  rotate_left
  · intro X hX
    obtain ⟨x0, x1, x2⟩ := hX
    go_simp
    try with_reducible rfl
  simp only [Act.put, List.setIfInBounds_toArray, List.set_cons_zero, List.set_cons_succ, Array.toArray_toList]
  refine wpAnyH_take (i := 2) (oi := { dst := some 9, op := Op.move (Operand.tmp 1), type := 3, pos := "ref.go:114", after := #[], guard := none }) (v := ?_) rfl (by kernel_rfl) (by kernel_rfl) (by kernel_rfl) (fun _ _ _ h => h) (Or.inl ⟨by rfl, ?_⟩) hS0 ?_
  rotate_left
  · intro X hX
    obtain ⟨x0, x1, x2⟩ := hX
    go_simp
    try with_reducible rfl
  simp only [Act.put, List.setIfInBounds_toArray, List.set_cons_zero, List.set_cons_succ, Array.toArray_toList]
  refine wpAnyH_take (i := 3) (oi := { dst := some 10, op := Op.move (Operand.tmp 2), type := 3, pos := "ref.go:114", after := #[], guard := none }) (v := ?_) rfl (by kernel_rfl) (by kernel_rfl) (by kernel_rfl) (fun _ _ _ h => h) (Or.inl ⟨by rfl, ?_⟩) hS0 ?_
  rotate_left
  · intro X hX
    obtain ⟨x0, x1, x2⟩ := hX
    go_simp
    try with_reducible rfl
  simp only [Act.put, List.setIfInBounds_toArray, List.set_cons_zero, List.set_cons_succ, Array.toArray_toList]
  refine wpAnyH_take (i := 4) (oi := { dst := some 11, op := Op.convert 3 94 (Operand.tmp 10), type := 94, pos := "ref.go:114", after := #[{ on := 3, ground := Ground.data }], guard := none }) (v := ?_) rfl (by kernel_rfl) (by kernel_rfl) (by kernel_rfl) (fun _ _ _ h => h) (Or.inl ⟨by rfl, ?_⟩) hS0 ?_
  rotate_left
  · intro X hX
    obtain ⟨x0, x1, x2⟩ := hX
    go_simp
    try with_reducible rfl
  simp only [Act.put, List.setIfInBounds_toArray, List.set_cons_zero, List.set_cons_succ, Array.toArray_toList]
  refine wpAnyH_take (i := 5) (oi := { dst := some 12, op := Op.binOp BinOp.shl 3 (Operand.const (Value.int IntKind.i64 1)) (Operand.tmp 11) 94, type := 3, pos := "ref.go:114", after := #[{ on := 4, ground := Ground.data }], guard := none }) (v := ?_) rfl (by kernel_rfl) (by kernel_rfl) (by kernel_rfl) (fun _ _ _ h => h) (Or.inl ⟨by rfl, ?_⟩) hS0 ?_
  rotate_left
  · intro X hX
    obtain ⟨x0, x1, x2⟩ := hX
    go_simp
    try with_reducible rfl
  simp only [Act.put, List.setIfInBounds_toArray, List.set_cons_zero, List.set_cons_succ, Array.toArray_toList]
  refine wpAnyH_take (i := 7) (oi := { dst := some 14, op := Op.move (Operand.tmp 2), type := 3, pos := "ref.go:114", after := #[], guard := none }) (v := ?_) rfl (by kernel_rfl) (by kernel_rfl) (by kernel_rfl) (fun _ _ _ h => h) (Or.inl ⟨by rfl, ?_⟩) hS0 ?_
  rotate_left
  · intro X hX
    obtain ⟨x0, x1, x2⟩ := hX
    go_simp
    try with_reducible rfl
  simp only [Act.put, List.setIfInBounds_toArray, List.set_cons_zero, List.set_cons_succ, Array.toArray_toList]
  refine wpAnyH_take (i := 9) (oi := { dst := some 16, op := Op.build 60 #[(0, Operand.const (Value.int IntKind.i64 0)), (1, Operand.const (Value.int IntKind.i64 40))], type := 60, pos := "ref.go:114", after := #[], guard := none }) (v := ?_) rfl (by kernel_rfl) (by kernel_rfl) (by kernel_rfl) (fun _ _ _ h => h) (Or.inl ⟨by rfl, ?_⟩) hS0 ?_
  rotate_left
  · intro X hX
    obtain ⟨x0, x1, x2⟩ := hX
    go_simp
    try with_reducible rfl
  simp only [Act.put, List.setIfInBounds_toArray, List.set_cons_zero, List.set_cons_succ, Array.toArray_toList]
  refine wpAnyH_ready (rs := [6]) (by kernel_rfl) (by simp) (AllReadyH.cons (o := { dst := some 13, op := Op.call { callee := Callee.value (Operand.func 30), args := #[Operand.tmp 8, Operand.tmp 9, Operand.tmp 12], argTypes := #[24, 3, 3] }, type := 44, pos := "ref.go:114", after := #[{ on := 1, ground := Ground.data }, { on := 2, ground := Ground.data }, { on := 5, ground := Ground.data }], guard := none }) rfl (fun K hK => ?_) AllReadyH.nil)
  go_simp
  refine HRR.out.mono ?_
  rintro e w3 ⟨rs, rfl, hrs, hb3⟩
  have y0 := cell_later hb3 x0
  have y1 := cell_later hb3 x1
  have y2 := cell_later hb3 x2
  go_wp2_with fail
  refine hK.out _ _ (⟨y0, y1, y2⟩) (fun hS1 => ?_)
  clear hS0 hK K
  refine wpAnyH_ready (rs := [8]) (by kernel_rfl) (by simp) (AllReadyH.cons (o := { dst := some 15, op := Op.call { callee := Callee.value (Operand.func 39), args := #[Operand.tmp 7, Operand.tmp 13, Operand.tmp 14], argTypes := #[24, 44, 3] }, type := 60, pos := "ref.go:114", after := #[{ on := 0, ground := Ground.data }, { on := 6, ground := Ground.data }, { on := 7, ground := Ground.data }, { on := 6, ground := Ground.chain }], guard := none }) rfl (fun K hK => ?_) AllReadyH.nil)
  go_simp
  refine (refBounds_any b o n cap k T C l rs _ _ w3 HL.out HO.out (HA.out.keep (Below.drew (Below.refl _ w1) |>.trans hb3) (Nat.le_refl _)) hrs (HL.out ▸ rooms_ok HO.out he0 [(k : Int)]) hk).mono ?_
  rintro e w4 ⟨r1, r2, rfl, hr12, hb4⟩
  have hci := Lib.hid (ctl_iff hlk (hr12 hHP.out).1 (hr12 hHP.out).2)
  have v0 := cell_later hb4 y0
  have v1 := cell_later hb4 y1
  have v2 := cell_later hb4 y2
  clear hr12
  go_wp2_with fail
  refine hK.out _ _ (⟨v0, v1, v2⟩) (fun hS2 => ?_)
  clear hS1 hK K
  refine wpAnyH_ready (rs := [10]) (by kernel_rfl) (by simp) (AllReadyH.cons (o := { dst := some 17, op := Op.binOp BinOp.neq 60 (Operand.tmp 15) (Operand.tmp 16) 60, type := 4, pos := "ref.go:114", after := #[{ on := 8, ground := Ground.data }, { on := 9, ground := Ground.data }], guard := none }) rfl (fun K hK => ?_) AllReadyH.nil)
  go_simp
  rw [show (if r1 = 0 then if r2 = 40 then Result.ok (Next.value (Value.bool false)) w4 else Result.ok (Next.value (Value.bool true)) w4 else Result.ok (Next.value (Value.bool true)) w4) = Result.ok (Next.value (Value.bool (ctlB l T C err k))) w4 from neq_ranges hci.out w4]
  rw [Oper.upon_value]
  refine hK.out _ _ (hS2) (fun hS3 => ?_)
  clear hS2 hK K
  refine wpAnyH_ready (rs := [11]) (by kernel_rfl) (by simp) (AllReadyH.cons (o := { dst := some 6, op := Op.assign (Operand.tmp 17), type := 4, pos := "ref.go:114", after := #[{ on := 10, ground := Ground.data }, { on := 8, ground := Ground.chain }, { on := 0, ground := Ground.phase }, { on := 1, ground := Ground.phase }, { on := 2, ground := Ground.phase }, { on := 3, ground := Ground.phase }, { on := 4, ground := Ground.phase }, { on := 5, ground := Ground.phase }, { on := 6, ground := Ground.phase }, { on := 7, ground := Ground.phase }, { on := 8, ground := Ground.phase }, { on := 9, ground := Ground.phase }, { on := 10, ground := Ground.phase }], guard := none }) rfl (fun K hK => ?_) AllReadyH.nil)
  go_simp
  refine hK.out _ _ (hS3) (fun hS4 => ?_)
  clear hS3 hK K
  refine wpAnyH_done (by kernel_rfl) ?_ _
  clear hS4
  have hB4 := HB.out.drew.trans ((hb3.trans (hb4.mono hb3.size)).mono HB.out.size)
  have HB4 := Lib.hid hB4
  clear hb3 hb4 hB4
  go_wp2_with fail
  go_ret
  exact ⟨rfl, HB4.out⟩
end Go.Proofs.Ytkloaeaepjoijaa

/-
  The reference: Leave.
-/
import Derived.Test.YtkloaeaepjoijaaRef9
set_option linter.all false
namespace Go.Proofs.Ytkloaeaepjoijaa
open Go.RowKit Go.WalkArith

theorem ints_drew {W : World} {v : Value} {xs : List Int} (h : IntsAt W v xs) : IntsAt W.drew v xs := h
theorem shl_at12 {p : Nat} (hp : p ≤ 12) : wrap64 (2 ^ p) = ((2 ^ p : Nat) : Int) := by
  have key : ∀ y : Fin 13, wrap64 (2 ^ y.1) = ((2 ^ y.1 : Nat) : Int) := by decide +kernel
  exact key ⟨p, by omega⟩

def RLv (l : List Ang) (T C err : Int) (n N : Nat) (w : World) (Bi : Nat) (net : Obj) (v i : Value) (wr : World) : Prop :=
  ∃ (k : Nat) (best : List Int), k + 1 ≤ N ∧ i = .int .i64 k ∧ IntsAt wr v best ∧ RBest (canE l T C err) n k best ∧ wr.heap[Bi]? = some net ∧ Below w.heap.size w wr

set_option maxRecDepth 100000 in
set_option maxHeartbeats 4000000 in
theorem refLeave_any (b o n cap : Nat) (T C err : Int) (l : List Ang) (w : World) (hl : l.length = n) (hok : NetOk l T C) (hA : AngsAt w (some ⟨b, o, none⟩) l) (he0 : 0 ≤ err) (he1 : err ≤ 40) :
    Calls Try.prog 44 #[.agg #[.slice (some ⟨b, o, none⟩) n cap, .int .i64 T, .int .i64 C], .int .i64 err] w fun e w' => ∃ v best, e = .returned (.tuple #[v, .bool (canE l T C err (bitsL (2 ^ n - 1)))]) ∧ IntsAt w' v best ∧ RBest (canE l T C err) n (2 ^ n - 1) best ∧ Below w.heap.size w w' := by
  have hB : Below w.heap.size w (w.alloc (.cells #[.slice (some ⟨b, o, none⟩) n cap, .int .i64 T, .int .i64 C] 24)) := (Below.refl _ _).alloc (Nat.le_refl _) _
  have hn0 := Go.heap_alloc_new w (.cells #[.slice (some ⟨b, o, none⟩) n cap, .int .i64 T, .int .i64 C] 24)
  have hn12 : n ≤ 12 := by rw [← hl]; exact hok.len
  have HB := Lib.hid hB
  have HN := Lib.hid hn0
  have HA := Lib.hid hA
  have HL := Lib.hid hl
  have HO := Lib.hid hok
  clear hB hn0 hA hl hok
  have P0 : 2 ^ n ≤ 4096 := Nat.pow_le_pow_right (n := 2) (by omega) hn12
  have P1 : 1 ≤ 2 ^ n := Nat.two_pow_pos n
  have hsp := shl_at12 hn12
  have hfu := full_ups n
  have hst := RBest.start (canE l T C err) n
  obtain ⟨N, hN⟩ : ∃ N : Nat, 2 ^ n = N := ⟨_, rfl⟩
  have hsp2 : wrap64 (2 ^ n) = (N : Int) := by rw [hsp, hN]
  rw [hN] at P0 P1 hfu hst ⊢
  clear hsp
  have HNN := Lib.hid hN
  clear hN
  obtain ⟨M, hM⟩ : ∃ M, N - 1 = M := ⟨_, rfl⟩
  rw [hM] at hfu hst ⊢
  have hMN : M + 1 = N := by omega
  go_enter Try.func44, Try.ntmps44
  go_wp2_with fail
  rw [show ((N : Int) - 1) = (M : Int) by omega]
  have hb0 := Lib.hid (refBits_any M (w.alloc (.cells #[.slice (some ⟨b, o, none⟩) n cap, .int .i64 T, .int .i64 C] 24)) (by omega))
  refine hb0.out.mono ?_
  rintro e w1 ⟨v0, rfl, hv0, hbb⟩
  have hB1 := HB.out.trans (hbb.mono HB.out.size)
  have n1 := (hbb.block w.heap.size (by simp)).trans HN.out
  obtain ⟨Bi, hBi⟩ : ∃ Bi, w.heap.size = Bi := ⟨_, rfl⟩
  have o1 : w.heap.size ≤ Bi := by omega
  rw [hBi] at n1 ⊢
  clear hBi hbb hb0 HB HN
  have HV0 := Lib.hid hv0
  have HB1 := Lib.hid hB1
  have N1 := Lib.hid n1
  have HST := Lib.hid hst
  clear hv0 hB1 n1 hst
  go_wp2_with fail
  go_loopw [7, 8] (RLv l T C err n N w Bi (.cells #[.slice (some ⟨b, o, none⟩) n cap, .int .i64 T, .int .i64 C] 24 (0, 0))) (fun _ i _ => M - (intOf i).toNat)
  case atStart => exact ⟨0, _, by omega, rfl, HV0.out, HST.out, N1.out, HB1.out⟩
  case round =>
    clear HV0 HB1 N1 HST
    obtain ⟨k, best, hk, rfl, hv, hrb, hI, hBe⟩ := hrel
    obtain ⟨Ab, bcap, rfl, hvb⟩ := id hv
    have hbl : best.length ≤ 1000000 := by
      rcases hrb.ups.len with h | h
      · rw [h]; simp
      · omega
    have HVV := Lib.hid hv
    have HRB := Lib.hid hrb
    have HI := Lib.hid hI
    have HBe := Lib.hid hBe
    clear hv hrb hI hBe hvb
    by_cases hlt : k < M
    · have hlt' : decide ((k : Int) < (M : Int)) = true := by simpa using hlt
      have hbk := Lib.hid (refBits_any k wr (by omega))
      go_wp2_with fail
      refine hbk.out.mono ?_
      rintro e w2 ⟨vk, rfl, hvk, hb2⟩
      obtain ⟨Ak, kcap, rfl, hvk2⟩ := id hvk
      have hbl2 : (bitsL k).length ≤ 1000000 := by
        rcases (bitsL_ups (n := 12) (bits := k) (by omega)).len with h | h
        · rw [h]; simp
        · omega
      have HVK := Lib.hid hvk
      have HVV2 := Lib.hid (HVV.out.keep hb2 (Nat.le_refl _))
      have HI2 := Lib.hid ((hb2.block Bi (Array.getElem?_eq_some_iff.1 HI.out).1).trans HI.out)
      have HB2 := Lib.hid (HBe.out.trans (hb2.mono HBe.out.size))
      clear hvk hvk2 hb2 hbk HVV HI HBe
      have x0 : w2.cell? ⟨Bi, 0, none⟩ = some (.slice (some ⟨b, o, none⟩) n cap) := by simp [World.cell?, HI2.out]
      have x1 : w2.cell? ⟨Bi, 1, none⟩ = some (.int .i64 T) := by simp [World.cell?, HI2.out]
      have x2 : w2.cell? ⟨Bi, 2, none⟩ = some (.int .i64 C) := by simp [World.cell?, HI2.out]
      have hle := Lib.hid (refLess_any _ _ (bitsL k) best w2.drew (ints_drew HVK.out) (ints_drew HVV2.out) hbl2 hbl)
      cases hlb : lessB (bitsL k) best with
      | false =>
        rw [hlb] at hle
        have HLB := Lib.hid hlb
        clear hlb
        go_wp2_with fail
        refine wp_region_held_drew (S := fun X => X.cell? ⟨Bi, 0, none⟩ = some (.slice (some ⟨b, o, none⟩) n cap) ∧ X.cell? ⟨Bi, 1, none⟩ = some (.int .i64 T) ∧ X.cell? ⟨Bi, 2, none⟩ = some (.int .i64 C)) (by kernel_rfl) (⟨x0, x1, x2⟩) (fun hS0 => ?_)
        refine wpAnyH_take (i := 0) (oi := { dst := some 25, op := Op.move (Operand.tmp 9), type := 25, pos := "ref.go:143", after := #[], guard := none }) (v := ?_) rfl (by kernel_rfl) (by kernel_rfl) (by kernel_rfl) (fun _ _ _ h => h) (Or.inl ⟨by rfl, ?_⟩) hS0 ?_
        rotate_left
        · intro X hX
          obtain ⟨x0, x1, x2⟩ := hX
          go_simp
          try with_reducible rfl
        simp only [Act.put, List.setIfInBounds_toArray, List.set_cons_zero, List.set_cons_succ, Array.toArray_toList]
        refine wpAnyH_take (i := 1) (oi := { dst := some 26, op := Op.move (Operand.tmp 7), type := 25, pos := "ref.go:143", after := #[], guard := none }) (v := ?_) rfl (by kernel_rfl) (by kernel_rfl) (by kernel_rfl) (fun _ _ _ h => h) (Or.inl ⟨by rfl, ?_⟩) hS0 ?_
        rotate_left
        · intro X hX
          obtain ⟨x0, x1, x2⟩ := hX
          go_simp
          try with_reducible rfl
        simp only [Act.put, List.setIfInBounds_toArray, List.set_cons_zero, List.set_cons_succ, Array.toArray_toList]
        refine wpAnyH_ready (rs := [2]) (by kernel_rfl) (by simp) (AllReadyH.cons (o := { dst := some 27, op := Op.call { callee := Callee.value (Operand.func 62), args := #[Operand.tmp 25, Operand.tmp 26], argTypes := #[25, 25] }, type := 4, pos := "ref.go:143", after := #[{ on := 0, ground := Ground.data }, { on := 1, ground := Ground.data }], guard := none }) rfl (fun K hK => ?_) AllReadyH.nil)
        go_simp
        refine hle.out.mono ?_
        rintro e w3 ⟨rfl, hb3⟩
        have y0 := cell_later hb3 x0
        have y1 := cell_later hb3 x1
        have y2 := cell_later hb3 x2
        go_wp2_with fail
        refine hK.out _ _ (⟨y0, y1, y2⟩) (fun hS1 => ?_)
        clear hS0 hK K
        refine wpAnyH_take (i := 3) (oi := { dst := some 28, op := Op.move (Operand.tmp 27), type := 4, pos := "ref.go:143", after := #[{ on := 2, ground := Ground.data }, { on := 2, ground := Ground.chain }], guard := none }) (v := ?_) rfl (by kernel_rfl) (by kernel_rfl) (by kernel_rfl) (fun _ _ _ h => h) (Or.inl ⟨by rfl, ?_⟩) hS1 ?_
        rotate_left
        · intro X hX
          obtain ⟨x0, x1, x2⟩ := hX
          go_simp
          try with_reducible rfl
        simp only [Act.put, List.setIfInBounds_toArray, List.set_cons_zero, List.set_cons_succ, Array.toArray_toList]
        refine wpAnyH_take (i := 4) (oi := { dst := some 29, op := Op.load 24 (Operand.tmp 2), type := 24, pos := "ref.go:143", after := #[{ on := 3, ground := Ground.guard }], guard := some (3, true) }) (v := undef) rfl (by kernel_rfl) (by kernel_rfl) (by kernel_rfl) (fun _ _ _ h => h) (Or.inr ⟨by rfl, rfl⟩) hS1 ?_
        simp only [Act.put, List.setIfInBounds_toArray, List.set_cons_zero, List.set_cons_succ, Array.toArray_toList]
        refine wpAnyH_take (i := 5) (oi := { dst := some 30, op := Op.load 24 (Operand.tmp 2), type := 24, pos := "ref.go:143", after := #[{ on := 3, ground := Ground.guard }], guard := some (3, true) }) (v := undef) rfl (by kernel_rfl) (by kernel_rfl) (by kernel_rfl) (fun _ _ _ h => h) (Or.inr ⟨by rfl, rfl⟩) hS1 ?_
        simp only [Act.put, List.setIfInBounds_toArray, List.set_cons_zero, List.set_cons_succ, Array.toArray_toList]
        refine wpAnyH_take (i := 6) (oi := { dst := some 31, op := Op.move (Operand.tmp 1), type := 3, pos := "ref.go:143", after := #[{ on := 3, ground := Ground.guard }], guard := some (3, true) }) (v := undef) rfl (by kernel_rfl) (by kernel_rfl) (by kernel_rfl) (fun _ _ _ h => h) (Or.inr ⟨by rfl, rfl⟩) hS1 ?_
        simp only [Act.put, List.setIfInBounds_toArray, List.set_cons_zero, List.set_cons_succ, Array.toArray_toList]
        refine wpAnyH_take (i := 7) (oi := { dst := some 32, op := Op.move (Operand.tmp 8), type := 3, pos := "ref.go:143", after := #[{ on := 3, ground := Ground.guard }], guard := some (3, true) }) (v := undef) rfl (by kernel_rfl) (by kernel_rfl) (by kernel_rfl) (fun _ _ _ h => h) (Or.inr ⟨by rfl, rfl⟩) hS1 ?_
        simp only [Act.put, List.setIfInBounds_toArray, List.set_cons_zero, List.set_cons_succ, Array.toArray_toList]
        refine wpAnyH_ready (rs := [8]) (by kernel_rfl) (by simp) (AllReadyH.cons (o := { dst := some 33, op := Op.call { callee := Callee.value (Operand.func 30), args := #[Operand.tmp 30, Operand.tmp 31, Operand.tmp 32], argTypes := #[24, 3, 3] }, type := 44, pos := "ref.go:143", after := #[{ on := 5, ground := Ground.data }, { on := 6, ground := Ground.data }, { on := 7, ground := Ground.data }, { on := 3, ground := Ground.chain }, { on := 3, ground := Ground.guard }], guard := some (3, true) }) rfl (fun K hK => ?_) AllReadyH.nil)
        go_simp
        refine hK.out _ _ (⟨y0, y1, y2⟩) (fun hS2 => ?_)
        clear hS1 hK K
        refine wpAnyH_ready (rs := [9]) (by kernel_rfl) (by simp) (AllReadyH.cons (o := { dst := some 34, op := Op.call { callee := Callee.value (Operand.func 77), args := #[Operand.tmp 29, Operand.tmp 33], argTypes := #[24, 44] }, type := 4, pos := "ref.go:143", after := #[{ on := 4, ground := Ground.data }, { on := 8, ground := Ground.data }, { on := 8, ground := Ground.chain }, { on := 3, ground := Ground.guard }], guard := some (3, true) }) rfl (fun K hK => ?_) AllReadyH.nil)
        go_simp
        refine hK.out _ _ (⟨y0, y1, y2⟩) (fun hS3 => ?_)
        clear hS2 hK K
        refine wpAnyH_take (i := 10) (oi := { dst := some 35, op := Op.pick (Operand.tmp 28) (Operand.tmp 34) (Operand.const (Value.bool false)), type := 4, pos := "ref.go:143", after := #[{ on := 3, ground := Ground.data }, { on := 9, ground := Ground.data }], guard := none }) (v := ?_) rfl (by kernel_rfl) (by kernel_rfl) (by kernel_rfl) (fun _ _ _ h => h) (Or.inl ⟨by rfl, ?_⟩) hS3 ?_
        rotate_left
        · intro X hX
          obtain ⟨x0, x1, x2⟩ := hX
          go_simp
          try with_reducible rfl
        simp only [Act.put, List.setIfInBounds_toArray, List.set_cons_zero, List.set_cons_succ, Array.toArray_toList]
        refine wpAnyH_done (by kernel_rfl) ?_ _
        clear hS3
        clear y0 y1 y2
        have hBd : Below w2.heap.size w2 w3 := Below.drew (Below.refl _ w2) |>.trans hb3
        have HVV3 := Lib.hid (HVV2.out.keep hBd (Nat.le_refl _))
        have HI3 := Lib.hid ((hBd.block Bi (Array.getElem?_eq_some_iff.1 HI2.out).1).trans HI2.out)
        have HB3 := Lib.hid (HB2.out.trans (hBd.mono HB2.out.size))
        clear hBd hb3 hle x0 x1 x2 HVK HVV2 HI2 HB2
        go_wp2_with fail
        go_roundw
        case rel => exact ⟨k + 1, best, by omega, by go_num, HVV3.out, HRB.out.keep (.inl HLB.out), HI3.out, HB3.out⟩
        case measure => simp [intOf]; omega
      | true =>
        rw [hlb] at hle
        have HLB := Lib.hid hlb
        clear hlb
        cases hcan : canE l T C err (bitsL k) with
        | false =>
          go_wp2_with fail
          go_region_held3 (fun X => X.cell? ⟨Bi, 0, none⟩ = some (.slice (some ⟨b, o, none⟩) n cap) ∧ X.cell? ⟨Bi, 1, none⟩ = some (.int .i64 T) ∧ X.cell? ⟨Bi, 2, none⟩ = some (.int .i64 C))
            (first | go_keep | exact ⟨cell_later hb3 x0, cell_later hb3 x1, cell_later hb3 x2⟩ | exact ⟨cell_later hb4 (cell_later hb3 x0), cell_later hb4 (cell_later hb3 x1), cell_later hb4 (cell_later hb3 x2)⟩ | exact ⟨cell_later hb5 (cell_later hb4 (cell_later hb3 x0)), cell_later hb5 (cell_later hb4 (cell_later hb3 x1)), cell_later hb5 (cell_later hb4 (cell_later hb3 x2))⟩)
            (first | (go_at_call 62; refine hle.out.mono ?_; rintro e w3 ⟨rfl, hb3⟩; have hq3 := HB2.out.drew.trans (hb3.mono HB2.out.drew.size)) | (go_at_call 30; refine (refRooms_any b o n cap T C err l k w3 HL.out HO.out (HA.out.keep hq3 (Nat.le_refl _)) he0 he1 (by omega)).mono ?_; rintro e w4 ⟨rs, rfl, hrs, hb4⟩; have hq4 := hq3.trans (hb4.mono hq3.size)) | (go_at_call 77; refine (refCanE_any b o n cap T C err l rs (bitsL k) w4 HL.out HO.out (HA.out.keep hq4 (Nat.le_refl _)) he0 hrs).mono ?_; rw [hcan]; rintro e w5 ⟨rfl, hb5⟩))
          have hBd : Below w2.heap.size w2 w5 := ((Below.drew (Below.refl _ w2)).trans hb3).trans ((hb4.mono hb3.size).trans (hb5.mono (Nat.le_trans hb3.size hb4.size)))
          have HVV3 := Lib.hid (HVV2.out.keep hBd (Nat.le_refl _))
          have HI3 := Lib.hid ((hBd.block Bi (Array.getElem?_eq_some_iff.1 HI2.out).1).trans HI2.out)
          have HB3 := Lib.hid (HB2.out.trans (hBd.mono HB2.out.size))
          have HCA := Lib.hid hcan
          clear hBd hb3 hb4 hb5 hq3 hq4 hrs hle hcan x0 x1 x2 HVK HVV2 HI2 HB2
          go_wp2_with fail
          go_roundw
          case rel => exact ⟨k + 1, best, by omega, by go_num, HVV3.out, HRB.out.keep (.inr HCA.out), HI3.out, HB3.out⟩
          case measure => simp [intOf]; omega
        | true =>
          go_wp2_with fail
          go_region_held3 (fun X => X.cell? ⟨Bi, 0, none⟩ = some (.slice (some ⟨b, o, none⟩) n cap) ∧ X.cell? ⟨Bi, 1, none⟩ = some (.int .i64 T) ∧ X.cell? ⟨Bi, 2, none⟩ = some (.int .i64 C))
            (first | go_keep | exact ⟨cell_later hb3 x0, cell_later hb3 x1, cell_later hb3 x2⟩ | exact ⟨cell_later hb4 (cell_later hb3 x0), cell_later hb4 (cell_later hb3 x1), cell_later hb4 (cell_later hb3 x2)⟩ | exact ⟨cell_later hb5 (cell_later hb4 (cell_later hb3 x0)), cell_later hb5 (cell_later hb4 (cell_later hb3 x1)), cell_later hb5 (cell_later hb4 (cell_later hb3 x2))⟩)
            (first | (go_at_call 62; refine hle.out.mono ?_; rintro e w3 ⟨rfl, hb3⟩; have hq3 := HB2.out.drew.trans (hb3.mono HB2.out.drew.size)) | (go_at_call 30; refine (refRooms_any b o n cap T C err l k w3 HL.out HO.out (HA.out.keep hq3 (Nat.le_refl _)) he0 he1 (by omega)).mono ?_; rintro e w4 ⟨rs, rfl, hrs, hb4⟩; have hq4 := hq3.trans (hb4.mono hq3.size)) | (go_at_call 77; refine (refCanE_any b o n cap T C err l rs (bitsL k) w4 HL.out HO.out (HA.out.keep hq4 (Nat.le_refl _)) he0 hrs).mono ?_; rw [hcan]; rintro e w5 ⟨rfl, hb5⟩))
          have hBd : Below w2.heap.size w2 w5 := ((Below.drew (Below.refl _ w2)).trans hb3).trans ((hb4.mono hb3.size).trans (hb5.mono (Nat.le_trans hb3.size hb4.size)))
          have HVK3 := Lib.hid (HVK.out.keep hBd (Nat.le_refl _))
          have HI3 := Lib.hid ((hBd.block Bi (Array.getElem?_eq_some_iff.1 HI2.out).1).trans HI2.out)
          have HB3 := Lib.hid (HB2.out.trans (hBd.mono HB2.out.size))
          have HCA := Lib.hid hcan
          clear hBd hb3 hb4 hb5 hq3 hq4 hrs hle hcan x0 x1 x2 HVK HVV2 HI2 HB2
          go_wp2_with fail
          go_roundw
          case rel => exact ⟨k + 1, bitsL k, by omega, by go_num, HVK3.out, HRB.out.turn (by rw [HNN.out]; omega) HLB.out HCA.out, HI3.out, HB3.out⟩
          case measure => simp [intOf]; omega
    · have hlt' : decide ((k : Int) < (M : Int)) = false := by simpa using hlt
      obtain rfl : k = M := by omega
      have x0 : wr.cell? ⟨Bi, 0, none⟩ = some (.slice (some ⟨b, o, none⟩) n cap) := by simp [World.cell?, HI.out]
      have x1 : wr.cell? ⟨Bi, 1, none⟩ = some (.int .i64 T) := by simp [World.cell?, HI.out]
      have x2 : wr.cell? ⟨Bi, 2, none⟩ = some (.int .i64 C) := by simp [World.cell?, HI.out]
      go_wp2_with fail
      go_region_held3 (fun X => X.cell? ⟨Bi, 0, none⟩ = some (.slice (some ⟨b, o, none⟩) n cap) ∧ X.cell? ⟨Bi, 1, none⟩ = some (.int .i64 T) ∧ X.cell? ⟨Bi, 2, none⟩ = some (.int .i64 C))
        (first | go_keep | exact ⟨cell_later hb4 x0, cell_later hb4 x1, cell_later hb4 x2⟩ | exact ⟨cell_later hb5 (cell_later hb4 x0), cell_later hb5 (cell_later hb4 x1), cell_later hb5 (cell_later hb4 x2)⟩)
        (first | (go_at_call 30; refine (refRooms_any b o n cap T C err l k wr.drew HL.out HO.out (HA.out.keep HBe.out.drew (Nat.le_refl _)) he0 he1 (by omega)).mono ?_; rintro e w4 ⟨rs, rfl, hrs, hb4⟩; have hq4 := HBe.out.drew.trans (hb4.mono HBe.out.drew.size)) | (go_at_call 77; refine (refCanE_any b o n cap T C err l rs (bitsL k) w4 HL.out HO.out (HA.out.keep hq4 (Nat.le_refl _)) he0 hrs).mono ?_; rintro e w5 ⟨rfl, hb5⟩))
      have hBd : Below wr.heap.size wr w5 := (Below.drew (Below.refl _ wr)).trans (hb4.trans (hb5.mono hb4.size))
      have HVV3 := Lib.hid (HVV.out.keep hBd (Nat.le_refl _))
      have HB3 := Lib.hid (HBe.out.trans (hBd.mono HBe.out.size))
      clear hBd hb4 hb5 hq4 hrs x0 x1 x2 HVV HI HBe
      go_wp2_with fail
      go_ret2
      exact ⟨_, best, rfl, HVV3.out, HRB.out, HB3.out⟩
end Go.Proofs.Ytkloaeaepjoijaa

/-
  Dips, Store: the laws' copies.
-/
import Derived.Test.YtefhdcecbmgljaaRefE
import Derived.Test.YtefhdcecbmgljaaLeaveA
set_option linter.all false
namespace Go.Proofs.Ytefhdcecbmgljaa
open Go.RowKit Go.WalkArith

def DCRel (dips : List Dp) (w : World) (v i : Value) (wr : World) : Prop :=
  ∃ k : Nat, k ≤ dips.length ∧ i = .int .i64 k ∧ wr.ownsRow w.heap.size 103 3 v k (flatD (dips.take k)) ∧ Below w.heap.size w wr

set_option maxRecDepth 100000 in
set_option maxHeartbeats 2000000 in
theorem dips_conv (A : Option Addr) (cap : Nat) (dips : List Dp) (w : World) (hd : DpsAt w A dips) (hn : dips.length ≤ 1000000) :
    Calls Try.prog 31 #[.slice A dips.length cap] w fun e w' => ∃ A' cap', e = .returned (.slice A' dips.length cap') ∧ DpsAt w' A' dips ∧ Below w.heap.size w w' := by
  obtain ⟨i0, hi0', hz0', hz1', hz2'⟩ := info_parts Try.info103
  have hi0 := Lib.hid hi0'
  have hz0 := Lib.hid hz0'
  have hz1 := Lib.hid hz1'
  have hz2 := Lib.hid hz2'
  have HD := Lib.hid hd
  clear hi0' hz0' hz1' hz2' hd
  go_enter Try.func31, Try.ntmps31
  go_wp2_with fail
  go_loopw [3, 4] (DCRel dips w) (fun _ i _ => dips.length - (intOf i).toNat)
  case atStart => exact ⟨0, by omega, rfl, World.ownsRow_nil _ _ _ _, Below.refl _ _⟩
  case round =>
    obtain ⟨k, hk, rfl, hown, hbe⟩ := hrel
    have HBE := Lib.hid hbe
    have HOW := Lib.hid hown
    clear hbe hown
    by_cases hlt : k < dips.length
    · have hlt' : decide ((k : Int) < (dips.length : Int)) = true := by simpa using hlt
      obtain ⟨b, o, rfl, a0, a1, a2⟩ := HD.out.at hlt
      obtain ⟨d, hdk⟩ : ∃ d, dips[k] = d := ⟨_, rfl⟩
      rw [hdk] at a0 a1 a2
      have htk : dips.take (k + 1) = dips.take k ++ [d] := by rw [List.take_succ_eq_append_getElem hlt, hdk]
      have HTK := Lib.hid htk
      have hln : (dips.take k).length = k := by simp; omega
      obtain ⟨⟨dn, dlo, dhi⟩, hde⟩ : ∃ D, d = D := ⟨_, rfl⟩
      subst hde
      dsimp only at a0 a1 a2
      have i1 : (0 : Int) ≤ (k : Int) := by omega
      have i2 : (k : Int) < (dips.length : Int) := by omega
      have hws := HBE.out.size
      have hbw : b < w.heap.size := World.block_lt_of_cell? w _ a0
      have HS := Lib.hid (show ∀ X, Below w.heap.size w X → X.cell? ⟨b, o + k * 3, none⟩ = some (.int .i64 dn) ∧ X.cell? ⟨b, o + k * 3 + 1, none⟩ = some (.int .i64 dlo) ∧ X.cell? ⟨b, o + k * 3 + 2, none⟩ = some (.int .i64 dhi) from fun X hX => ⟨(hX.cell hbw).trans a0, (hX.cell hbw).trans a1, (hX.cell hbw).trans a2⟩)
      clear htk hdk a0 a1 a2
      obtain ⟨a0, a1, a2⟩ := HS.out _ HBE.out
      go_wp2_with fail
      refine wp_region_held_drew (S := fun X => X.cell? ⟨b, o + k * 3, none⟩ = some (.int .i64 dn) ∧ X.cell? ⟨b, o + k * 3 + 1, none⟩ = some (.int .i64 dlo) ∧ X.cell? ⟨b, o + k * 3 + 2, none⟩ = some (.int .i64 dhi)) (by kernel_rfl) (⟨a0, a1, a2⟩) (fun hS0 => ?_)
      refine tkH 0 ⟨some 11, .move (.tmp 3), 60, "law.go:32", #[], none⟩ (v := ?_) hS0 ?_ ?_
      rotate_left
      · intro X ⟨x0, x1, x2⟩; go_simp; try with_reducible rfl
      simp only [Act.put, List.setIfInBounds_toArray, List.set_cons_zero, List.set_cons_succ, Array.toArray_toList]
      refine tkH 1 ⟨some 12, .move (.tmp 0), 55, "law.go:32", #[], none⟩ (v := ?_) hS0 ?_ ?_
      rotate_left
      · intro X ⟨x0, x1, x2⟩; go_simp; try with_reducible rfl
      simp only [Act.put, List.setIfInBounds_toArray, List.set_cons_zero, List.set_cons_succ, Array.toArray_toList]
      refine tkH 2 ⟨some 13, .move (.tmp 4), 3, "law.go:32", #[], none⟩ (v := ?_) hS0 ?_ ?_
      rotate_left
      · intro X ⟨x0, x1, x2⟩; go_simp; try with_reducible rfl
      simp only [Act.put, List.setIfInBounds_toArray, List.set_cons_zero, List.set_cons_succ, Array.toArray_toList]
      refine tkH 3 ⟨some 14, .indexAddr 55 (.tmp 12) (.tmp 13), 0, "law.go:32", #[⟨1, .data⟩, ⟨2, .data⟩], none⟩ (v := ?_) hS0 ?_ ?_
      rotate_left
      · intro X ⟨x0, x1, x2⟩; go_simp; try with_reducible rfl
      simp only [Act.put, List.setIfInBounds_toArray, List.set_cons_zero, List.set_cons_succ, Array.toArray_toList]
      refine tkH 4 ⟨some 15, .fieldAddr 85 (.tmp 14) 0, 0, "law.go:32", #[⟨3, .data⟩], none⟩ (v := ?_) hS0 ?_ ?_
      rotate_left
      · intro X ⟨x0, x1, x2⟩; go_simp; try with_reducible rfl
      simp only [Act.put, List.setIfInBounds_toArray, List.set_cons_zero, List.set_cons_succ, Array.toArray_toList]
      refine tkH 5 ⟨some 16, .load 3 (.tmp 15), 3, "law.go:32", #[⟨4, .data⟩], none⟩ (v := ?_) hS0 ?_ ?_
      rotate_left
      · intro X ⟨x0, x1, x2⟩; go_simp; try with_reducible rfl
      simp only [Act.put, List.setIfInBounds_toArray, List.set_cons_zero, List.set_cons_succ, Array.toArray_toList]
      refine tkH 6 ⟨some 17, .move (.tmp 0), 55, "law.go:32", #[], none⟩ (v := ?_) hS0 ?_ ?_
      rotate_left
      · intro X ⟨x0, x1, x2⟩; go_simp; try with_reducible rfl
      simp only [Act.put, List.setIfInBounds_toArray, List.set_cons_zero, List.set_cons_succ, Array.toArray_toList]
      refine tkH 7 ⟨some 18, .move (.tmp 4), 3, "law.go:32", #[], none⟩ (v := ?_) hS0 ?_ ?_
      rotate_left
      · intro X ⟨x0, x1, x2⟩; go_simp; try with_reducible rfl
      simp only [Act.put, List.setIfInBounds_toArray, List.set_cons_zero, List.set_cons_succ, Array.toArray_toList]
      refine tkH 8 ⟨some 19, .indexAddr 55 (.tmp 17) (.tmp 18), 0, "law.go:32", #[⟨6, .data⟩, ⟨7, .data⟩], none⟩ (v := ?_) hS0 ?_ ?_
      rotate_left
      · intro X ⟨x0, x1, x2⟩; go_simp; try with_reducible rfl
      simp only [Act.put, List.setIfInBounds_toArray, List.set_cons_zero, List.set_cons_succ, Array.toArray_toList]
      refine tkH 9 ⟨some 20, .fieldAddr 85 (.tmp 19) 1, 0, "law.go:32", #[⟨8, .data⟩], none⟩ (v := ?_) hS0 ?_ ?_
      rotate_left
      · intro X ⟨x0, x1, x2⟩; go_simp; try with_reducible rfl
      simp only [Act.put, List.setIfInBounds_toArray, List.set_cons_zero, List.set_cons_succ, Array.toArray_toList]
      refine tkH 10 ⟨some 21, .load 23 (.tmp 20), 23, "law.go:32", #[⟨9, .data⟩], none⟩ (v := ?_) hS0 ?_ ?_
      rotate_left
      · intro X ⟨x0, x1, x2⟩; go_simp; try with_reducible rfl
      simp only [Act.put, List.setIfInBounds_toArray, List.set_cons_zero, List.set_cons_succ, Array.toArray_toList]
      refine wpAnyH_ready (rs := [11]) (by kernel_rfl) (by simp) (AllReadyH.cons (o := ⟨some 22, .call ⟨.value (.func 54), #[.tmp 21], #[23]⟩, 36, "law.go:32", #[⟨10, .data⟩], none⟩) rfl (fun K hK => ?_) AllReadyH.nil)
      go_simp
      refine (conv_any dlo dhi wr.drew).mono ?_
      rintro e w2 ⟨rfl, hb2⟩
      have hb2' : Below wr.heap.size wr w2 := (Below.refl _ wr).drew.trans hb2
      have HB2 := Lib.hid (HBE.out.trans (hb2'.mono HBE.out.size))
      have HOW2 := Lib.hid (HOW.out.kept (Go_grown_of_below hb2') (own_none _))
      have hw2 := HB2.out.size
      clear hb2 hb2'
      go_wp2_with fail
      refine hK.out _ _ ((HS.out _ HB2.out)) (fun hS1 => ?_)
      clear hS0 hK K
      refine tkH 12 ⟨some 23, .build 103 #[(0, .tmp 16), (1, .tmp 22)], 103, "law.go:32", #[⟨5, .data⟩, ⟨11, .data⟩], none⟩ (v := ?_) hS1 ?_ ?_
      rotate_left
      · intro X ⟨x0, x1, x2⟩; go_simp; try with_reducible rfl
      simp only [Act.put, List.setIfInBounds_toArray, List.set_cons_zero, List.set_cons_succ, Array.toArray_toList]
      refine wpAnyH_ready (rs := [13]) (by kernel_rfl) (by simp) (AllReadyH.cons (o := ⟨some 24, .buildSlice 60 1 #[(0, .tmp 23)], 60, "law.go:32", #[⟨12, .data⟩], none⟩) rfl (fun K hK => ?_) AllReadyH.nil)
      go_simp
      have hbq : Below w2.heap.size w2 (w2.alloc (.cells #[.int .i64 dn, .int .i64 dlo, .int .i64 dhi] 103)) := (Below.refl _ _).alloc (Nat.le_refl _) _
      refine hK.out _ _ ((HS.out _ (HB2.out.trans (hbq.mono hw2)))) (fun hS2 => ?_)
      clear hS1 hK K
      refine wpAnyH_ready (rs := [14]) (by kernel_rfl) (by simp) (AllReadyH.cons (o := ⟨some 25, .call ⟨.builtin .append, #[.tmp 11, .tmp 24], #[60, 60]⟩, 60, "law.go:32", #[⟨0, .data⟩, ⟨13, .data⟩, ⟨11, .chain⟩], none⟩) rfl (fun K hK => ?_) AllReadyH.nil)
      refine step_append_lies _ (by rfl) _ _ _ (by rfl) w.heap.size 103 i0 _ 3 24 Try.underlying60 hi0.out hz0.out hz1.out hz2.out rfl (by omega) _ k _ (by rfl) (HOW2.out.alloc _) ⟨w2.heap.size, 0, none⟩ 1 1 [.int .i64 dn, .int .i64 dlo, .int .i64 dhi] (by rfl) (by rfl) (World.news_of_block (cs := #[.int .i64 dn, .int .i64 dlo, .int .i64 dhi]) (t := 103) (fr := (0, 0)) (Go.heap_alloc_new w2 _)) (by simp [Value.oneCell']) (by omega) (by unfold maxLen; omega) (by omega) (by simp; omega) (w2.heap.size + 1) (by simp) ?_
      intro gg cap' w5 hown5 hgrow hat hlt5
      have HB5 := Lib.hid (HB2.out.trans (((hbq.mono hw2)).trans (below_of_grown hgrow (HOW2.out.alloc _) (Nat.le_refl _) (by simp; omega))))
      have HOWN5 := Lib.hid (show w5.ownsRow w.heap.size 103 3 (.slice (some ⟨gg, 0, none⟩) (k + 1) cap') (k + 1) (flatD (dips.take (k + 1))) by rw [HTK.out, flatD_snoc]; exact hown5)
      clear hown5 hgrow hat hlt5
      refine hK.out _ _ ((HS.out _ HB5.out)) (fun hS3 => ?_)
      clear hS2 hK K
      simp only [Act.put, List.setIfInBounds_toArray, List.set_cons_zero, List.set_cons_succ, Array.toArray_toList]
      refine tkH 15 ⟨some 3, .assign (.tmp 25), 60, "law.go:32", #[⟨14, .data⟩, ⟨14, .chain⟩, ⟨0, .phase⟩, ⟨1, .phase⟩, ⟨2, .phase⟩, ⟨3, .phase⟩, ⟨4, .phase⟩, ⟨5, .phase⟩, ⟨6, .phase⟩, ⟨7, .phase⟩, ⟨8, .phase⟩, ⟨9, .phase⟩, ⟨10, .phase⟩, ⟨11, .phase⟩, ⟨12, .phase⟩, ⟨13, .phase⟩, ⟨14, .phase⟩], none⟩ (v := ?_) hS3 ?_ ?_
      rotate_left
      · intro X ⟨x0, x1, x2⟩; go_simp; try with_reducible rfl
      simp only [Act.put, List.setIfInBounds_toArray, List.set_cons_zero, List.set_cons_succ, Array.toArray_toList]
      refine wpAnyH_done (by kernel_rfl) ?_ _
      clear hS3
      go_wp2_with fail
      go_roundw
      case rel => exact ⟨k + 1, by omega, by go_num, HOWN5.out, HB5.out⟩
      case measure => simp [intOf]; omega
    · have hlt' : decide ((k : Int) < (dips.length : Int)) = false := by simpa using hlt
      obtain rfl : k = dips.length := by omega
      have h1 := HOW.out
      rw [List.take_length] at h1
      obtain ⟨A', cap', hv, hA'⟩ := DpsAt.of_own h1
      subst hv
      have HA' := Lib.hid hA'
      clear hA' h1
      go_wp2_with fail
      go_ret
      exact ⟨_, _, rfl, HA'.out, HBE.out⟩
end Go.Proofs.Ytefhdcecbmgljaa

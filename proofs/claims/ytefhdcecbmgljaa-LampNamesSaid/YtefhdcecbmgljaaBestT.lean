/-
  best.
-/
import Derived.Test.YtefhdcecbmgljaaBestH
set_option linter.all false
namespace Go.Proofs.Ytefhdcecbmgljaa
open Go.RowKit Go.WalkArith

set_option maxRecDepth 100000 in
set_option maxHeartbeats 16000000 in
theorem bestT_any (w0 : World) (Bw Bk : Nat) (s : St) (J : Job) (A : Option Addr) (cp Bs Bl : Nat) (hok : StOk s) (hJ : JobS s J) (hJo : JobOk J) (hF : JobFT w0 s J Bs Bl) (W : World) (m : Int → Int → Option Int) (hE : WkEnvT w0 Bw Bk s A cp Bs Bl W) (hM : SpotMap W Bk m) (hm : Memo s J m) :
    Calls Try.prog 82 #[.pointer (some ⟨Bw, 0, none⟩)] W (BPost s J Bk W) := by
  have hlen := hok.len
  have hs0 := hok.s0
  have hs1 := hok.s1
  have hs2 := hok.s2
  have hc1 := hok.c1
  have hb0 : Below W.heap.size W (W.alloc (.cells #[.int .i64 0, .int .i64 s.sl] 155)) := (Below.refl _ _).alloc (Nat.le_refl _) _
  have hn0 := Go.heap_alloc_new W (.cells #[.int .i64 0, .int .i64 s.sl] 155)
  have hwk := hE.lk
  have lBk := hM.lt
  have nwk := hE.ne
  have lwW := hE.lt
  have HE1 := Lib.hid (hE.keep hb0)
  have HN1 := Lib.hid hn0
  have HK1 := Lib.hid (MK.of_below (b := Bk) hb0)
  have HM1 := Lib.hid (hM.of_block (hb0.block _ hM.lt))
  have HE := Lib.hid hE
  have HMM := Lib.hid hm
  have HOK := Lib.hid hok
  have HJ := Lib.hid hJ
  have HJO := Lib.hid hJo
  have HF := Lib.hid hF
  obtain ⟨x0, x1, x2, x3, x4, x5, x6, x7, x8, x9⟩ := hE.cells
  clear hok hJ hJo hF hb0 hn0 hE hM hm x0 x1 x3 x4 x5 x6 x7 x8 x9
  go_enter Try.func82, Try.ntmps82
  go_wp2_with fail
  generalize W.alloc (.cells #[.int .i64 0, .int .i64 s.sl] 155) = w1 at HE1 HN1 HK1 HM1 ⊢
  obtain ⟨Bx, hBx⟩ : ∃ Bx, W.heap.size = Bx := ⟨_, rfl⟩
  have wbx : W.heap.size ≤ Bx := by omega
  have nxk : Bx ≠ Bk := by omega
  have lkx : Bk < Bx := by omega
  have nwx : Bw ≠ Bx := by omega
  rw [hBx] at HN1 ⊢
  clear hBx x2
  have hch := cheapT_any w0 Bw Bk s J A cp Bs Bl HOK.out HJ.out HJO.out HF.out s.ns.length 0 s.sl w1 m (by omega) (by omega) HE1.out HM1.out HMM.out
  rw [show (((0 : Nat)) : Int) = 0 from rfl] at hch
  with_reducible refine hch.mono ?_
  clear hch
  rintro e w2 ⟨rfl, hk2, m2, hM2, hm2⟩
  have HK2 := Lib.hid (HK1.out.trans hk2)
  have HN2 := Lib.hid ((hk2.block Bx (Array.getElem?_eq_some_iff.1 HN1.out).1 nxk).trans HN1.out)
  have HM2 := Lib.hid hM2
  have HMM2 := Lib.hid hm2
  obtain ⟨T, hT⟩ : ∃ T, chp s J s.ns.length 0 s.sl = T := ⟨_, rfl⟩
  rw [hT]
  have HT := Lib.hid hT
  clear hk2 hM2 hm2 hT HE1 HK1 HN1 HM1 HMM
  by_cases hge : 524288 ≤ T
  · have hge' : decide (524288 ≤ T) = true := decide_eq_true hge
    have hfin : BPost s J Bk W (.returned (.tuple #[.slice none 0 0, .int .i64 0, .bool false])) w2 := ⟨HK2.out, .inl ⟨by rw [HT.out]; exact hge, rfl⟩⟩
    have HFIN := Lib.hid hfin
    clear hfin
    go_wp2_with fail
    go_ret3
    exact HFIN.out
  · have hge' : decide (524288 ≤ T) = false := decide_eq_false hge
    have hTs : T + 1000 * (s.ns.length : Int) < 500000 := by
      have h := chp_small (s := s) HJO.out (r := s.ns.length) (i := 0) (o := s.sl) hlen (by rw [HT.out]; omega)
      rw [HT.out] at h
      omega
    have HTS := Lib.hid hTs
    clear hTs
    go_wp2_with fail
    go_loopw [2, 6] (BRel s J Bk Bx W) (fun _ _ w => match w.cell? ⟨Bx, 0, none⟩ with | some (.int _ n) => s.ns.length - n.toNat | _ => 0)
    case atStart => exact ⟨0, s.ns.length, s.sl, [], by omega, HN2.out, by omega, rfl, World.ownsRow_nil _ _ _ _, by rw [HT.out], by rw [HT.out]; exact HTS.out, rfl, HK2.out, m2, HM2.out, HMM2.out⟩
    case round =>
      clear HK2 HN2 HM2 HMM2 HTS
      obtain ⟨wo, rfl⟩ : ∃ wo : World, wo = wr := ⟨_, rfl⟩
      obtain ⟨i, r, o, xs, hir, hbx, ho, hxl, hown, rfl, hsm, hbl, hmk, m3, hM3, hm3⟩ := hrel
      have HIR := Lib.hid hir
      have HN := Lib.hid hbx
      have HXL := Lib.hid hxl
      have HOWN := Lib.hid hown
      have HSM := Lib.hid hsm
      have HBL := Lib.hid hbl
      have HMK := Lib.hid hmk
      have HM := Lib.hid hM3
      have HMM := Lib.hid hm3
      have HEW := Lib.hid (HE.out.move hmk)
      have hws := hmk.size
      have hxb : xs.length ≤ 6 := by omega
      obtain ⟨y0, y1, y2, y3, y4, y5, y6, y7, y8, y9⟩ := HEW.out.cells
      have u0 : wo.cell? ⟨Bx, 0, none⟩ = some (.int .i64 (i : Int)) := by simp [World.cell?, hbx]
      have HU0 := Lib.hid u0
      clear hir hbx hxl hown hsm hbl hmk hM3 hm3 y0 y1 y2 y3 y6 y7 y8 y9
      cases r with
      | zero =>
        have hin : i = s.ns.length := by have := HIR.out; omega
        have hlt' : decide (i < s.ns.length) = false := by simp; omega
        have HIN := Lib.hid hin
        clear hin
        go_wp2_with fail
        refine wp_region_held_drew (S := fun X => X.cell? ⟨Bx, 0, none⟩ = some (.int .i64 (i : Int)) ∧ X.cell? ⟨Bw, 4, none⟩ = some (.slice A s.ns.length cp)) (by kernel_rfl) (⟨u0, y4⟩) (fun hS0 => ?_)
        refine tkH 0 ⟨some 23, .fieldAddr 155 (.tmp 5) 0, 0, "oil.go:170", #[], none⟩ (v := ?_) hS0 ?_ ?_
        rotate_left
        · intro X ⟨x0, x1⟩; go_simp; try with_reducible rfl
        simp only [Act.put, List.setIfInBounds_toArray, List.set_cons_zero, List.set_cons_succ, Array.toArray_toList]
        refine tkH 1 ⟨some 24, .load 3 (.tmp 23), 3, "oil.go:170", #[⟨0, .data⟩], none⟩ (v := ?_) hS0 ?_ ?_
        rotate_left
        · intro X ⟨x0, x1⟩; go_simp; try with_reducible rfl
        simp only [Act.put, List.setIfInBounds_toArray, List.set_cons_zero, List.set_cons_succ, Array.toArray_toList]
        refine tkH 2 ⟨some 25, .move (.tmp 0), 126, "oil.go:170", #[], none⟩ (v := ?_) hS0 ?_ ?_
        rotate_left
        · intro X ⟨x0, x1⟩; go_simp; try with_reducible rfl
        simp only [Act.put, List.setIfInBounds_toArray, List.set_cons_zero, List.set_cons_succ, Array.toArray_toList]
        refine tkH 3 ⟨some 26, .nilCheck (.tmp 25), 0, "oil.go:170", #[⟨2, .data⟩], none⟩ (v := ?_) hS0 ?_ ?_
        rotate_left
        · intro X ⟨x0, x1⟩; go_simp; try with_reducible rfl
        simp only [Act.put, List.setIfInBounds_toArray, List.set_cons_zero, List.set_cons_succ, Array.toArray_toList]
        refine tkH 4 ⟨some 27, .fieldAddr 131 (.tmp 26) 0, 0, "oil.go:170", #[⟨3, .data⟩], none⟩ (v := ?_) hS0 ?_ ?_
        rotate_left
        · intro X ⟨x0, x1⟩; go_simp; try with_reducible rfl
        simp only [Act.put, List.setIfInBounds_toArray, List.set_cons_zero, List.set_cons_succ, Array.toArray_toList]
        refine tkH 5 ⟨some 28, .fieldAddr 39 (.tmp 27) 3, 0, "oil.go:170", #[⟨4, .data⟩], none⟩ (v := ?_) hS0 ?_ ?_
        rotate_left
        · intro X ⟨x0, x1⟩; go_simp; try with_reducible rfl
        simp only [Act.put, List.setIfInBounds_toArray, List.set_cons_zero, List.set_cons_succ, Array.toArray_toList]
        refine tkH 6 ⟨some 29, .load 37 (.tmp 28), 37, "oil.go:170", #[⟨5, .data⟩], none⟩ (v := ?_) hS0 ?_ ?_
        rotate_left
        · intro X ⟨x0, x1⟩; go_simp; try with_reducible rfl
        simp only [Act.put, List.setIfInBounds_toArray, List.set_cons_zero, List.set_cons_succ, Array.toArray_toList]
        refine tkH 7 ⟨some 30, .call ⟨.builtin .len, #[.tmp 29], #[37]⟩, 3, "oil.go:170", #[⟨6, .data⟩], none⟩ (v := ?_) hS0 ?_ ?_
        rotate_left
        · intro X ⟨x0, x1⟩; go_simp; try with_reducible rfl
        simp only [Act.put, List.setIfInBounds_toArray, List.set_cons_zero, List.set_cons_succ, Array.toArray_toList]
        refine tkH 8 ⟨some 31, .binOp .lss 3 (.tmp 24) (.tmp 30) 3, 4, "oil.go:170", #[⟨1, .data⟩, ⟨7, .data⟩], none⟩ (v := ?_) hS0 ?_ ?_
        rotate_left
        · intro X ⟨x0, x1⟩; go_simp; try with_reducible rfl
        simp only [Act.put, List.setIfInBounds_toArray, List.set_cons_zero, List.set_cons_succ, Array.toArray_toList]
        refine wpAnyH_done (by kernel_rfl) ?_ _
        clear hS0
        obtain ⟨vA, vc, rfl⟩ := (IntsAt.of_own HOWN.out).slice
        have hbst : bestL s J s.ns.length 0 s.sl = xs := by rw [HBL.out]; simp [bestL]
        have hfin : BPost s J Bk W (.returned (.tuple #[.slice vA xs.length vc, .int .i64 T, .bool true])) wo.drew := ⟨HMK.out.trans (MK.of_below ((Below.refl _ _).drew)), .inr ⟨by rw [HT.out]; omega, _, by rw [HT.out], by rw [hbst, ← HIN.out, ← HXL.out]; exact (HOWN.out.lower (by omega)).kept (Go_grown_of_below ((Below.refl _ wo).drew)) (own_none _)⟩⟩
        have HFIN := Lib.hid hfin
        clear hfin u0 y4 y5 hbst
        go_wp2_with fail
        go_ret3
        exact HFIN.out
      | succ r =>
        have hi : i < s.ns.length := by have := HIR.out; omega
        have hr6 : r ≤ 5 := by have := HIR.out; omega
        have hlt' : decide (i < s.ns.length) = true := by simp; omega
        obtain ⟨m0, hf0, hm0, hpk, hlo0, hhi0, hnb0, hch0⟩ := pick_some (s := s) (i := i) (o := o) HJO.out (by omega) (by have := HSM.out; omega : chp s J (r + 1) i o < 524288)
        have hfs := firstTo_some hf0
        obtain ⟨L, hL⟩ : ∃ L, chp s J (r + 1) i o = L := ⟨_, rfl⟩
        have hcb := chp_bd (s := s) HJO.out (r + 1) i o (by omega)
        rw [hL] at hcb hfs hch0 hpk
        rw [hL]
        have HLL := Lib.hid hL
        have HPK := Lib.hid hpk
        have HFS := Lib.hid hfs
        have HNB0 := Lib.hid hnb0
        have HCH0 := Lib.hid hch0
        have HLO0 := Lib.hid hlo0
        have HHI0 := Lib.hid hhi0
        have hrng := HJ.out.rng i hi
        clear hf0 hpk hfs hnb0 hch0 hlo0 hhi0 hL
        go_wp2_with fail
        refine wp_region_held_drew (S := fun X => X.cell? ⟨Bx, 0, none⟩ = some (.int .i64 (i : Int)) ∧ X.cell? ⟨Bw, 4, none⟩ = some (.slice A s.ns.length cp)) (by kernel_rfl) (⟨u0, y4⟩) (fun hS0 => ?_)
        refine tkH 0 ⟨some 23, .fieldAddr 155 (.tmp 5) 0, 0, "oil.go:170", #[], none⟩ (v := ?_) hS0 ?_ ?_
        rotate_left
        · intro X ⟨x0, x1⟩; go_simp; try with_reducible rfl
        simp only [Act.put, List.setIfInBounds_toArray, List.set_cons_zero, List.set_cons_succ, Array.toArray_toList]
        refine tkH 1 ⟨some 24, .load 3 (.tmp 23), 3, "oil.go:170", #[⟨0, .data⟩], none⟩ (v := ?_) hS0 ?_ ?_
        rotate_left
        · intro X ⟨x0, x1⟩; go_simp; try with_reducible rfl
        simp only [Act.put, List.setIfInBounds_toArray, List.set_cons_zero, List.set_cons_succ, Array.toArray_toList]
        refine tkH 2 ⟨some 25, .move (.tmp 0), 126, "oil.go:170", #[], none⟩ (v := ?_) hS0 ?_ ?_
        rotate_left
        · intro X ⟨x0, x1⟩; go_simp; try with_reducible rfl
        simp only [Act.put, List.setIfInBounds_toArray, List.set_cons_zero, List.set_cons_succ, Array.toArray_toList]
        refine tkH 3 ⟨some 26, .nilCheck (.tmp 25), 0, "oil.go:170", #[⟨2, .data⟩], none⟩ (v := ?_) hS0 ?_ ?_
        rotate_left
        · intro X ⟨x0, x1⟩; go_simp; try with_reducible rfl
        simp only [Act.put, List.setIfInBounds_toArray, List.set_cons_zero, List.set_cons_succ, Array.toArray_toList]
        refine tkH 4 ⟨some 27, .fieldAddr 131 (.tmp 26) 0, 0, "oil.go:170", #[⟨3, .data⟩], none⟩ (v := ?_) hS0 ?_ ?_
        rotate_left
        · intro X ⟨x0, x1⟩; go_simp; try with_reducible rfl
        simp only [Act.put, List.setIfInBounds_toArray, List.set_cons_zero, List.set_cons_succ, Array.toArray_toList]
        refine tkH 5 ⟨some 28, .fieldAddr 39 (.tmp 27) 3, 0, "oil.go:170", #[⟨4, .data⟩], none⟩ (v := ?_) hS0 ?_ ?_
        rotate_left
        · intro X ⟨x0, x1⟩; go_simp; try with_reducible rfl
        simp only [Act.put, List.setIfInBounds_toArray, List.set_cons_zero, List.set_cons_succ, Array.toArray_toList]
        refine tkH 6 ⟨some 29, .load 37 (.tmp 28), 37, "oil.go:170", #[⟨5, .data⟩], none⟩ (v := ?_) hS0 ?_ ?_
        rotate_left
        · intro X ⟨x0, x1⟩; go_simp; try with_reducible rfl
        simp only [Act.put, List.setIfInBounds_toArray, List.set_cons_zero, List.set_cons_succ, Array.toArray_toList]
        refine tkH 7 ⟨some 30, .call ⟨.builtin .len, #[.tmp 29], #[37]⟩, 3, "oil.go:170", #[⟨6, .data⟩], none⟩ (v := ?_) hS0 ?_ ?_
        rotate_left
        · intro X ⟨x0, x1⟩; go_simp; try with_reducible rfl
        simp only [Act.put, List.setIfInBounds_toArray, List.set_cons_zero, List.set_cons_succ, Array.toArray_toList]
        refine tkH 8 ⟨some 31, .binOp .lss 3 (.tmp 24) (.tmp 30) 3, 4, "oil.go:170", #[⟨1, .data⟩, ⟨7, .data⟩], none⟩ (v := ?_) hS0 ?_ ?_
        rotate_left
        · intro X ⟨x0, x1⟩; go_simp; try with_reducible rfl
        simp only [Act.put, List.setIfInBounds_toArray, List.set_cons_zero, List.set_cons_succ, Array.toArray_toList]
        refine wpAnyH_done (by kernel_rfl) ?_ _
        clear hS0
        clear y4
        have hd2 : Below wo.heap.size wo wo.drew := (Below.refl _ _).drew
        have HN2 := Lib.hid (show wo.drew.heap[Bx]? = _ from HN.out)
        have HOWN2 := Lib.hid (HOWN.out.kept (Go_grown_of_below hd2) (own_none _))
        have HMK2 := Lib.hid (HMK.out.trans (MK.of_below hd2))
        have HM2 := Lib.hid (HM.out.of_block (w' := wo.drew) rfl)
        have HE2 := Lib.hid (HEW.out.keep hd2)
        replace u0 := cell_later hd2 u0
        replace y5 := cell_later hd2 y5
        clear hd2 HN HOWN HMK HM HEW
        go_wp2_with fail
        generalize wo.drew = w2 at HN2 HOWN2 HMK2 HM2 HE2 u0 y5 ⊢
        refine wp_region_held_drew (S := fun X => X.cell? ⟨Bw, 5, none⟩ = some (.func (.func 85) #[] #[.pointer (some ⟨Bs, 0, none⟩)]) ∧ X.cell? ⟨Bx, 0, none⟩ = some (.int .i64 (i : Int))) (by kernel_rfl) (⟨y5, u0⟩) (fun hS0 => ?_)
        refine tkH 0 ⟨some 32, .move (.tmp 0), 126, "oil.go:171", #[], none⟩ (v := ?_) hS0 ?_ ?_
        rotate_left
        · intro X ⟨x0, x1⟩; go_simp; try with_reducible rfl
        simp only [Act.put, List.setIfInBounds_toArray, List.set_cons_zero, List.set_cons_succ, Array.toArray_toList]
        refine tkH 1 ⟨some 33, .nilCheck (.tmp 32), 0, "oil.go:171", #[⟨0, .data⟩], none⟩ (v := ?_) hS0 ?_ ?_
        rotate_left
        · intro X ⟨x0, x1⟩; go_simp; try with_reducible rfl
        simp only [Act.put, List.setIfInBounds_toArray, List.set_cons_zero, List.set_cons_succ, Array.toArray_toList]
        refine tkH 2 ⟨some 34, .fieldAddr 131 (.tmp 33) 1, 0, "oil.go:171", #[⟨1, .data⟩], none⟩ (v := ?_) hS0 ?_ ?_
        rotate_left
        · intro X ⟨x0, x1⟩; go_simp; try with_reducible rfl
        simp only [Act.put, List.setIfInBounds_toArray, List.set_cons_zero, List.set_cons_succ, Array.toArray_toList]
        refine tkH 3 ⟨some 35, .load 128 (.tmp 34), 128, "oil.go:171", #[⟨2, .data⟩], none⟩ (v := ?_) hS0 ?_ ?_
        rotate_left
        · intro X ⟨x0, x1⟩; go_simp; try with_reducible rfl
        simp only [Act.put, List.setIfInBounds_toArray, List.set_cons_zero, List.set_cons_succ, Array.toArray_toList]
        refine tkH 4 ⟨some 36, .fieldAddr 155 (.tmp 5) 0, 0, "oil.go:171", #[], none⟩ (v := ?_) hS0 ?_ ?_
        rotate_left
        · intro X ⟨x0, x1⟩; go_simp; try with_reducible rfl
        simp only [Act.put, List.setIfInBounds_toArray, List.set_cons_zero, List.set_cons_succ, Array.toArray_toList]
        refine tkH 5 ⟨some 37, .load 3 (.tmp 36), 3, "oil.go:171", #[⟨4, .data⟩], none⟩ (v := ?_) hS0 ?_ ?_
        rotate_left
        · intro X ⟨x0, x1⟩; go_simp; try with_reducible rfl
        simp only [Act.put, List.setIfInBounds_toArray, List.set_cons_zero, List.set_cons_succ, Array.toArray_toList]
        refine wpAnyH_ready (rs := [6]) (by kernel_rfl) (by simp) (AllReadyH.cons (o := ⟨some 38, .call ⟨.value (.tmp 35), #[.tmp 37], #[3]⟩, 3, "oil.go:171", #[⟨3, .data⟩, ⟨5, .data⟩], none⟩) rfl (fun K hK => ?_) AllReadyH.nil)
        go_simp
        with_reducible refine (HF.out.lo _ HE2.out.drew.old i hi).mono ?_
        rintro e w4 ⟨rfl, hb4⟩
        have hb4' : Below w2.heap.size w2 w4 := (Below.refl _ w2).drew.trans hb4
        go_wp2_with fail
        refine hK.out _ _ (⟨cell_later hb4' y5, cell_later hb4' u0⟩) (fun hS1 => ?_)
        clear hS0 hK K
        refine tkH 7 ⟨some 7, .assign (.tmp 38), 3, "oil.go:171", #[⟨6, .data⟩, ⟨6, .chain⟩, ⟨0, .phase⟩, ⟨1, .phase⟩, ⟨2, .phase⟩, ⟨3, .phase⟩, ⟨4, .phase⟩, ⟨5, .phase⟩, ⟨6, .phase⟩], none⟩ (v := ?_) hS1 ?_ ?_
        rotate_left
        · intro X ⟨x0, x1⟩; go_simp; try with_reducible rfl
        simp only [Act.put, List.setIfInBounds_toArray, List.set_cons_zero, List.set_cons_succ, Array.toArray_toList]
        refine wpAnyH_done (by kernel_rfl) ?_ _
        clear hS1
        have HN4 := Lib.hid ((hb4'.block _ (Array.getElem?_eq_some_iff.1 HN2.out).1).trans HN2.out)
        have HOWN4 := Lib.hid (HOWN2.out.kept (Go_grown_of_below hb4') (own_none _))
        have HMK4 := Lib.hid (HMK2.out.trans (MK.of_below hb4'))
        have HM4 := Lib.hid (HM2.out.of_block (hb4'.block _ HM2.out.lt))
        clear hb4 hb4' y5 u0 HN2 HOWN2 HMK2 HM2 HE2
        go_wp2_with fail
        go_loopw [2, 6, 7] (NRel s J Bk Bx i m0 o xs L W) (fun _ _ v _ => (J.hi i + 1 - intOf v).toNat)
        case atStart => exact ⟨0, Nat.zero_le _, rfl, by simp, HN4.out, HOWN4.out, HMK4.out, m3, HM4.out, HMM.out⟩
        case round =>
          clear HN4 HOWN4 HMK4 HM4 HMM
          obtain ⟨q, hq, rfl, rfl, hbx, hown, hmk, m', hM', hm'⟩ := hrel
          have HMK := Lib.hid hmk
          have HM5 := Lib.hid hM'
          have HMM5 := Lib.hid hm'
          have HOWN5 := Lib.hid hown
          have HN5 := Lib.hid hbx
          have HE5 := Lib.hid (HE.out.move hmk)
          have hs5 := hmk.size
          clear hmk hM' hm' hown hbx
          obtain ⟨y0, y1, y2, y3, y4, y5, y6, y7, y8, y9⟩ := HE5.out.cells
          have u0 : wr.cell? ⟨Bx, 0, none⟩ = some (.int .i64 (i : Int)) := by simp [World.cell?, HN5.out]
          have u1 : wr.cell? ⟨Bx, 1, none⟩ = some (.int .i64 o) := by simp [World.cell?, HN5.out]
          obtain ⟨nn, hnn⟩ : ∃ nn, J.lo i + (q : Int) = nn := ⟨_, rfl⟩
          rw [hnn]
          have HNN := Lib.hid hnn
          have hnr : 0 ≤ nn ∧ nn ≤ 11 := by unfold numN at hm0; omega
          obtain ⟨hh, hhh⟩ : ∃ hh, J.hi i = hh := ⟨_, rfl⟩
          have HHH := Lib.hid hhh
          have hhb : hh ≤ 10 := by omega
          have hcon := HF.out.hi _ HE5.out.drew.old i hi
          rw [hhh] at hcon
          have HCON := Lib.hid hcon
          have hle : decide (nn ≤ hh) = true := decide_eq_true (by unfold numN at hm0; omega)
          have HLO := Lib.hid (show J.lo i ≤ nn by omega)
          have HHI := Lib.hid (show nn ≤ J.hi i by unfold numN at hm0; omega)
          clear y0 y1 y2 y3 y4 y5 y8 hnn hcon hhh
          go_wp2_with fail
          refine wp_region_held_drew (S := fun X => X.cell? ⟨Bw, 6, none⟩ = some (.func (.func 86) #[] #[.pointer (some ⟨Bs, 0, none⟩)]) ∧ X.cell? ⟨Bx, 0, none⟩ = some (.int .i64 (i : Int))) (by kernel_rfl) (⟨y6, u0⟩) (fun hS0 => ?_)
          refine tkH 0 ⟨some 39, .move (.tmp 7), 3, "oil.go:171", #[], none⟩ (v := ?_) hS0 ?_ ?_
          rotate_left
          · intro X ⟨x0, x1⟩; go_simp; try with_reducible rfl
          simp only [Act.put, List.setIfInBounds_toArray, List.set_cons_zero, List.set_cons_succ, Array.toArray_toList]
          refine tkH 1 ⟨some 40, .move (.tmp 0), 126, "oil.go:171", #[], none⟩ (v := ?_) hS0 ?_ ?_
          rotate_left
          · intro X ⟨x0, x1⟩; go_simp; try with_reducible rfl
          simp only [Act.put, List.setIfInBounds_toArray, List.set_cons_zero, List.set_cons_succ, Array.toArray_toList]
          refine tkH 2 ⟨some 41, .nilCheck (.tmp 40), 0, "oil.go:171", #[⟨1, .data⟩], none⟩ (v := ?_) hS0 ?_ ?_
          rotate_left
          · intro X ⟨x0, x1⟩; go_simp; try with_reducible rfl
          simp only [Act.put, List.setIfInBounds_toArray, List.set_cons_zero, List.set_cons_succ, Array.toArray_toList]
          refine tkH 3 ⟨some 42, .fieldAddr 131 (.tmp 41) 2, 0, "oil.go:171", #[⟨2, .data⟩], none⟩ (v := ?_) hS0 ?_ ?_
          rotate_left
          · intro X ⟨x0, x1⟩; go_simp; try with_reducible rfl
          simp only [Act.put, List.setIfInBounds_toArray, List.set_cons_zero, List.set_cons_succ, Array.toArray_toList]
          refine tkH 4 ⟨some 43, .load 128 (.tmp 42), 128, "oil.go:171", #[⟨3, .data⟩], none⟩ (v := ?_) hS0 ?_ ?_
          rotate_left
          · intro X ⟨x0, x1⟩; go_simp; try with_reducible rfl
          simp only [Act.put, List.setIfInBounds_toArray, List.set_cons_zero, List.set_cons_succ, Array.toArray_toList]
          refine tkH 5 ⟨some 44, .fieldAddr 155 (.tmp 5) 0, 0, "oil.go:171", #[], none⟩ (v := ?_) hS0 ?_ ?_
          rotate_left
          · intro X ⟨x0, x1⟩; go_simp; try with_reducible rfl
          simp only [Act.put, List.setIfInBounds_toArray, List.set_cons_zero, List.set_cons_succ, Array.toArray_toList]
          refine tkH 6 ⟨some 45, .load 3 (.tmp 44), 3, "oil.go:171", #[⟨5, .data⟩], none⟩ (v := ?_) hS0 ?_ ?_
          rotate_left
          · intro X ⟨x0, x1⟩; go_simp; try with_reducible rfl
          simp only [Act.put, List.setIfInBounds_toArray, List.set_cons_zero, List.set_cons_succ, Array.toArray_toList]
          refine wpAnyH_ready (rs := [7]) (by kernel_rfl) (by simp) (AllReadyH.cons (o := ⟨some 46, .call ⟨.value (.tmp 43), #[.tmp 45], #[3]⟩, 3, "oil.go:171", #[⟨4, .data⟩, ⟨6, .data⟩], none⟩) rfl (fun K hK => ?_) AllReadyH.nil)
          go_simp
          with_reducible refine HCON.out.mono ?_
          rintro e w6 ⟨rfl, hb6⟩
          have hb6' : Below wr.heap.size wr w6 := (Below.refl _ wr).drew.trans hb6
          go_wp2_with fail
          refine hK.out _ _ (⟨cell_later hb6' y6, cell_later hb6' u0⟩) (fun hS1 => ?_)
          clear hS0 hK K
          refine tkH 8 ⟨some 47, .binOp .leq 3 (.tmp 39) (.tmp 46) 3, 4, "oil.go:171", #[⟨0, .data⟩, ⟨7, .data⟩], none⟩ (v := ?_) hS1 ?_ ?_
          rotate_left
          · intro X ⟨x0, x1⟩; go_simp; try with_reducible rfl
          simp only [Act.put, List.setIfInBounds_toArray, List.set_cons_zero, List.set_cons_succ, Array.toArray_toList]
          refine wpAnyH_done (by kernel_rfl) ?_ _
          clear hS1
          have HE6 := Lib.hid (HE5.out.keep hb6')
          have HM6 := Lib.hid (HM5.out.of_block (hb6'.block _ HM5.out.lt))
          have HK6 := Lib.hid (HMK.out.trans (MK.of_below hb6'))
          have HN6 := Lib.hid ((hb6'.block _ (Array.getElem?_eq_some_iff.1 HN5.out).1).trans HN5.out)
          have HOWN6 := Lib.hid (HOWN5.out.kept (Go_grown_of_below hb6') (own_none _))
          replace u0 := cell_later hb6' u0
          replace u1 := cell_later hb6' u1
          replace y6 := cell_later hb6' y6
          replace y7 := cell_later hb6' y7
          replace y9 := cell_later hb6' y9
          have ls6 := hb6'.size
          clear hb6 hb6' HE5 HM5 HMK HN5 HOWN5 HCON
          go_wp2_with fail
          with_reducible refine (stepT_any w0 Bw Bk s J A cp Bs Bl HOK.out HJ.out HF.out i o nn w6 hi ho ⟨HLO.out, HHI.out⟩ HE6.out).mono ?_
          rintro e w7 ⟨rfl, hb7⟩
          obtain ⟨no, hno⟩ : ∃ no, nextO s J i nn o = no := ⟨_, rfl⟩
          obtain ⟨nb, hnb⟩ : ∃ nb, nextB s J i nn o = nb := ⟨_, rfl⟩
          have hnob := nextO_bd HOK.out HJ.out hi ⟨HLO.out, HHI.out⟩ ho.1
          rw [hno] at hnob
          rw [hno, hnb]
          have HNO := Lib.hid hno
          have HNB := Lib.hid hnb
          have hbx : Below w7.heap.size w7 (w7.alloc (.cells #[.int .i64 ((i : Int) + 1), .int .i64 no] 155)) := (Below.refl _ _).alloc (Nat.le_refl _) _
          have h67 : Below w6.heap.size w6 (w7.alloc (.cells #[.int .i64 ((i : Int) + 1), .int .i64 no] 155)) := hb7.trans (hbx.mono hb7.size)
          have HM8 := Lib.hid (HM6.out.of_block (h67.block _ HM6.out.lt))
          have HK8 := Lib.hid (HK6.out.trans (MK.of_below h67))
          have HE8 := Lib.hid (HE6.out.keep h67)
          have HN8 := Lib.hid ((h67.block _ (Array.getElem?_eq_some_iff.1 HN6.out).1).trans HN6.out)
          have HOWN8 := Lib.hid (HOWN6.out.kept (Go_grown_of_below h67) (own_none _))
          have hnx := Go.heap_alloc_new w7 (.cells #[.int .i64 ((i : Int) + 1), .int .i64 no] 155)
          have v0 := cell_later h67 u0
          have v1 := cell_later h67 u1
          have v7 := cell_later h67 y7
          have hrn : ∀ r, u2.ownBlock = some r → r < w7.heap.size := fun r e => Nat.lt_of_lt_of_le (HOWN6.out.lt r e).2 hb7.size
          have hls7 : Bx < w7.heap.size := Nat.lt_of_lt_of_le (Array.getElem?_eq_some_iff.1 HN6.out).1 hb7.size
          clear hno hnb hbx h67 hb7 u0 u1 y6 y7 y9 HE6 HM6 HK6 HN6 HOWN6
          go_wp2_with fail
          generalize hw8 : w7.alloc (.cells #[.int .i64 ((i : Int) + 1), .int .i64 no] 155) = w8 at HM8 HK8 HE8 HN8 HOWN8 hnx v0 v1 v7 ⊢
          have hs8 : w7.heap.size < w8.heap.size := (Array.getElem?_eq_some_iff.1 hnx).1
          clear hw8
          obtain ⟨Bn, hBn⟩ : ∃ Bn, w7.heap.size = Bn := ⟨_, rfl⟩
          rw [hBn] at hnx hls7 hs8 hrn ⊢
          have a0 : w8.cell? ⟨Bn, 0, none⟩ = some (.int .i64 ((i : Int) + 1)) := by simp [World.cell?, hnx]
          have a1 : w8.cell? ⟨Bn, 1, none⟩ = some (.int .i64 no) := by simp [World.cell?, hnx]
          have nnx : Bn ≠ Bx := by omega
          have nnk : Bn ≠ Bk := by omega
          have HNX := Lib.hid hnx
          have HRN := Lib.hid hrn
          clear hBn hnx hrn
          cases nb with
          | false =>
            have hqm : q < m0 := by
              rcases Nat.lt_or_ge q m0 with h | h
              · exact h
              · have e : q = m0 := by omega
                have := HNB0.out
                rw [← e, HNN.out, HNB.out] at this
                cases this
            refine wp_region_held_drew (S := fun X => X.cell? ⟨Bw, 7, none⟩ = some (.func (.func 87) #[] #[.pointer (some ⟨Bs, 0, none⟩)]) ∧ X.cell? ⟨Bx, 0, none⟩ = some (.int .i64 (i : Int))) (by kernel_rfl) (⟨v7, v0⟩) (fun hS0 => ?_)
            refine tkH 0 ⟨some 57, .move (.tmp 9), 4, "oil.go:173", #[], none⟩ (v := ?_) hS0 ?_ ?_
            rotate_left
            · intro X ⟨x0, x1⟩; go_simp; try with_reducible rfl
            simp only [Act.put, List.setIfInBounds_toArray, List.set_cons_zero, List.set_cons_succ, Array.toArray_toList]
            refine tkH 1 ⟨some 58, .move (.tmp 57), 4, "oil.go:173", #[⟨0, .data⟩], none⟩ (v := ?_) hS0 ?_ ?_
            rotate_left
            · intro X ⟨x0, x1⟩; go_simp; try with_reducible rfl
            simp only [Act.put, List.setIfInBounds_toArray, List.set_cons_zero, List.set_cons_succ, Array.toArray_toList]
            refine wpAnyH_take (i := 2) (oi := ⟨some 59, .move (.tmp 0), 126, "oil.go:173", #[⟨1, .guard⟩], some (1, true)⟩) (v := undef) rfl (by kernel_rfl) (by kernel_rfl) (by kernel_rfl) (fun _ _ _ h => h) (Or.inr ⟨by rfl, rfl⟩) hS0 ?_
            simp only [Act.put, List.setIfInBounds_toArray, List.set_cons_zero, List.set_cons_succ, Array.toArray_toList]
            refine wpAnyH_take (i := 3) (oi := ⟨some 60, .nilCheck (.tmp 59), 0, "oil.go:173", #[⟨2, .data⟩, ⟨1, .guard⟩], some (1, true)⟩) (v := undef) rfl (by kernel_rfl) (by kernel_rfl) (by kernel_rfl) (fun _ _ _ h => h) (Or.inr ⟨by rfl, rfl⟩) hS0 ?_
            simp only [Act.put, List.setIfInBounds_toArray, List.set_cons_zero, List.set_cons_succ, Array.toArray_toList]
            refine wpAnyH_take (i := 4) (oi := ⟨some 61, .fieldAddr 131 (.tmp 60) 3, 0, "oil.go:173", #[⟨3, .data⟩, ⟨1, .guard⟩], some (1, true)⟩) (v := undef) rfl (by kernel_rfl) (by kernel_rfl) (by kernel_rfl) (fun _ _ _ h => h) (Or.inr ⟨by rfl, rfl⟩) hS0 ?_
            simp only [Act.put, List.setIfInBounds_toArray, List.set_cons_zero, List.set_cons_succ, Array.toArray_toList]
            refine wpAnyH_take (i := 5) (oi := ⟨some 62, .load 129 (.tmp 61), 129, "oil.go:173", #[⟨4, .data⟩, ⟨1, .guard⟩], some (1, true)⟩) (v := undef) rfl (by kernel_rfl) (by kernel_rfl) (by kernel_rfl) (fun _ _ _ h => h) (Or.inr ⟨by rfl, rfl⟩) hS0 ?_
            simp only [Act.put, List.setIfInBounds_toArray, List.set_cons_zero, List.set_cons_succ, Array.toArray_toList]
            refine wpAnyH_take (i := 6) (oi := ⟨some 63, .fieldAddr 155 (.tmp 5) 0, 0, "oil.go:173", #[⟨1, .guard⟩], some (1, true)⟩) (v := undef) rfl (by kernel_rfl) (by kernel_rfl) (by kernel_rfl) (fun _ _ _ h => h) (Or.inr ⟨by rfl, rfl⟩) hS0 ?_
            simp only [Act.put, List.setIfInBounds_toArray, List.set_cons_zero, List.set_cons_succ, Array.toArray_toList]
            refine wpAnyH_take (i := 7) (oi := ⟨some 64, .load 3 (.tmp 63), 3, "oil.go:173", #[⟨6, .data⟩, ⟨1, .guard⟩], some (1, true)⟩) (v := undef) rfl (by kernel_rfl) (by kernel_rfl) (by kernel_rfl) (fun _ _ _ h => h) (Or.inr ⟨by rfl, rfl⟩) hS0 ?_
            simp only [Act.put, List.setIfInBounds_toArray, List.set_cons_zero, List.set_cons_succ, Array.toArray_toList]
            refine wpAnyH_take (i := 8) (oi := ⟨some 65, .move (.tmp 7), 3, "oil.go:173", #[⟨1, .guard⟩], some (1, true)⟩) (v := undef) rfl (by kernel_rfl) (by kernel_rfl) (by kernel_rfl) (fun _ _ _ h => h) (Or.inr ⟨by rfl, rfl⟩) hS0 ?_
            simp only [Act.put, List.setIfInBounds_toArray, List.set_cons_zero, List.set_cons_succ, Array.toArray_toList]
            refine wpAnyH_take (i := 9) (oi := ⟨some 66, .call ⟨.value (.tmp 62), #[.tmp 64, .tmp 65], #[3, 3]⟩, 3, "oil.go:173", #[⟨5, .data⟩, ⟨7, .data⟩, ⟨8, .data⟩, ⟨1, .chain⟩, ⟨1, .guard⟩], some (1, true)⟩) (v := undef) rfl (by kernel_rfl) (by kernel_rfl) (by kernel_rfl) (fun _ _ _ h => h) (Or.inr ⟨by rfl, rfl⟩) hS0 ?_
            simp only [Act.put, List.setIfInBounds_toArray, List.set_cons_zero, List.set_cons_succ, Array.toArray_toList]
            refine wpAnyH_take (i := 10) (oi := ⟨some 67, .move (.tmp 0), 126, "oil.go:173", #[⟨1, .guard⟩], some (1, true)⟩) (v := undef) rfl (by kernel_rfl) (by kernel_rfl) (by kernel_rfl) (fun _ _ _ h => h) (Or.inr ⟨by rfl, rfl⟩) hS0 ?_
            simp only [Act.put, List.setIfInBounds_toArray, List.set_cons_zero, List.set_cons_succ, Array.toArray_toList]
            refine wpAnyH_take (i := 11) (oi := ⟨some 68, .load 155 (.tmp 8), 155, "oil.go:173", #[⟨1, .guard⟩], some (1, true)⟩) (v := undef) rfl (by kernel_rfl) (by kernel_rfl) (by kernel_rfl) (fun _ _ _ h => h) (Or.inr ⟨by rfl, rfl⟩) hS0 ?_
            simp only [Act.put, List.setIfInBounds_toArray, List.set_cons_zero, List.set_cons_succ, Array.toArray_toList]
            refine wpAnyH_take (i := 12) (oi := ⟨some 69, .call ⟨.value (.func 107), #[.tmp 67, .tmp 68], #[126, 155]⟩, 3, "oil.go:173", #[⟨10, .data⟩, ⟨11, .data⟩, ⟨9, .chain⟩, ⟨1, .guard⟩], some (1, true)⟩) (v := undef) rfl (by kernel_rfl) (by kernel_rfl) (by kernel_rfl) (fun _ _ _ h => h) (Or.inr ⟨by rfl, rfl⟩) hS0 ?_
            simp only [Act.put, List.setIfInBounds_toArray, List.set_cons_zero, List.set_cons_succ, Array.toArray_toList]
            refine wpAnyH_take (i := 13) (oi := ⟨some 70, .binOp .add 3 (.tmp 66) (.tmp 69) 3, 3, "oil.go:173", #[⟨9, .data⟩, ⟨12, .data⟩, ⟨1, .guard⟩], some (1, true)⟩) (v := undef) rfl (by kernel_rfl) (by kernel_rfl) (by kernel_rfl) (fun _ _ _ h => h) (Or.inr ⟨by rfl, rfl⟩) hS0 ?_
            simp only [Act.put, List.setIfInBounds_toArray, List.set_cons_zero, List.set_cons_succ, Array.toArray_toList]
            refine wpAnyH_take (i := 14) (oi := ⟨some 71, .move (.tmp 6), 3, "oil.go:173", #[⟨1, .guard⟩], some (1, true)⟩) (v := undef) rfl (by kernel_rfl) (by kernel_rfl) (by kernel_rfl) (fun _ _ _ h => h) (Or.inr ⟨by rfl, rfl⟩) hS0 ?_
            simp only [Act.put, List.setIfInBounds_toArray, List.set_cons_zero, List.set_cons_succ, Array.toArray_toList]
            refine wpAnyH_take (i := 15) (oi := ⟨some 72, .binOp .eql 3 (.tmp 70) (.tmp 71) 3, 4, "oil.go:173", #[⟨13, .data⟩, ⟨14, .data⟩, ⟨1, .guard⟩], some (1, true)⟩) (v := undef) rfl (by kernel_rfl) (by kernel_rfl) (by kernel_rfl) (fun _ _ _ h => h) (Or.inr ⟨by rfl, rfl⟩) hS0 ?_
            simp only [Act.put, List.setIfInBounds_toArray, List.set_cons_zero, List.set_cons_succ, Array.toArray_toList]
            refine tkH 16 ⟨some 73, .pick (.tmp 58) (.tmp 72) (.const (.bool false)), 4, "oil.go:173", #[⟨1, .data⟩, ⟨15, .data⟩], none⟩ (v := ?_) hS0 ?_ ?_
            rotate_left
            · intro X ⟨x0, x1⟩; go_simp; try with_reducible rfl
            simp only [Act.put, List.setIfInBounds_toArray, List.set_cons_zero, List.set_cons_succ, Array.toArray_toList]
            refine wpAnyH_done (by kernel_rfl) ?_ _
            clear hS0
            have hd9 : Below w8.heap.size w8 w8.drew := (Below.refl _ _).drew
            have HM9 := Lib.hid (HM8.out.of_block (w' := w8.drew) rfl)
            have HK9 := Lib.hid (HK8.out.trans (MK.of_below hd9))
            have HN9 := Lib.hid (show w8.drew.heap[Bx]? = _ from HN8.out)
            have HOWN9 := Lib.hid (HOWN8.out.kept (Go_grown_of_below hd9) (own_none _))
            clear hd9 v0 v1 v7 a0 a1 HM8 HK8 HE8 HN8 HOWN8
            go_wp2_with fail
            go_roundw
            case rel => exact ⟨q + 1, by omega, rfl, by rw [← HNN.out]; push_cast; congr 1; omega, HN9.out, HOWN9.out, HK9.out, m', HM9.out, HMM5.out⟩
            case measure => have h1 := HNN.out; have h2 := HHH.out; simp [intOf]; unfold numN at hm0; omega
          | true =>
            obtain ⟨C, hC⟩ : ∃ C, J.cost i nn = C := ⟨_, rfl⟩
            obtain ⟨D, hD⟩ : ∃ D, chp s J r (i + 1) no = D := ⟨_, rfl⟩
            have hCb := HJO.out i nn HLO.out HHI.out
            have hDb := chp_bd (s := s) HJO.out r (i + 1) no (by omega)
            rw [hC] at hCb
            rw [hD] at hDb
            have hIH : ∀ X, WkEnvT w0 Bw Bk s A cp Bs Bl X → SpotMap X Bk m' → Calls Try.prog 107 #[.pointer (some ⟨Bw, 0, none⟩), .agg #[.int .i64 ((i : Int) + 1), .int .i64 no]] X (fun e W' => e = .returned (.int .i64 D) ∧ MK Bk X W' ∧ ∃ m, SpotMap W' Bk m ∧ Memo s J m) := by
              intro X hX1 hX2
              have h := cheapT_any w0 Bw Bk s J A cp Bs Bl HOK.out HJ.out HJO.out HF.out r (i + 1) no X m' (by have := HIR.out; omega) hnob hX1 hX2 HMM5.out
              rw [show (((i + 1 : Nat)) : Int) = (i : Int) + 1 by omega] at h
              unfold CPost at h
              rw [hD] at h
              exact h
            have HIH := Lib.hid hIH
            have HC := Lib.hid hC
            have HD := Lib.hid hD
            have hwr : IntKind.i64.wrap (C + D) = C + D := IntWalk.i64_in _ (by omega)
            obtain ⟨eb, heb⟩ : ∃ eb, ((C + D : Int) == L) = eb := ⟨_, rfl⟩
            have hgq : chpG s J r i o q = some (C + D) := by unfold chpG; rw [HNN.out, HNB.out, HNO.out, hC, hD]; rfl
            have HGQ := Lib.hid hgq
            clear hIH hC hD hgq
            refine wp_region_held_drew (S := fun X => X.cell? ⟨Bw, 7, none⟩ = some (.func (.func 87) #[] #[.pointer (some ⟨Bs, 0, none⟩)]) ∧ X.cell? ⟨Bx, 0, none⟩ = some (.int .i64 (i : Int)) ∧ X.cell? ⟨Bn, 0, none⟩ = some (.int .i64 ((i : Int) + 1)) ∧ X.cell? ⟨Bn, 1, none⟩ = some (.int .i64 no)) (by kernel_rfl) (⟨v7, v0, a0, a1⟩) (fun hS0 => ?_)
            refine tkH 0 ⟨some 57, .move (.tmp 9), 4, "oil.go:173", #[], none⟩ (v := ?_) hS0 ?_ ?_
            rotate_left
            · intro X ⟨x0, x1, x2, x3⟩; go_simp; try with_reducible rfl
            simp only [Act.put, List.setIfInBounds_toArray, List.set_cons_zero, List.set_cons_succ, Array.toArray_toList]
            refine tkH 1 ⟨some 58, .move (.tmp 57), 4, "oil.go:173", #[⟨0, .data⟩], none⟩ (v := ?_) hS0 ?_ ?_
            rotate_left
            · intro X ⟨x0, x1, x2, x3⟩; go_simp; try with_reducible rfl
            simp only [Act.put, List.setIfInBounds_toArray, List.set_cons_zero, List.set_cons_succ, Array.toArray_toList]
            refine tkH 2 ⟨some 59, .move (.tmp 0), 126, "oil.go:173", #[⟨1, .guard⟩], some (1, true)⟩ (v := ?_) hS0 ?_ ?_
            rotate_left
            · intro X ⟨x0, x1, x2, x3⟩; go_simp; try with_reducible rfl
            simp only [Act.put, List.setIfInBounds_toArray, List.set_cons_zero, List.set_cons_succ, Array.toArray_toList]
            refine tkH 3 ⟨some 60, .nilCheck (.tmp 59), 0, "oil.go:173", #[⟨2, .data⟩, ⟨1, .guard⟩], some (1, true)⟩ (v := ?_) hS0 ?_ ?_
            rotate_left
            · intro X ⟨x0, x1, x2, x3⟩; go_simp; try with_reducible rfl
            simp only [Act.put, List.setIfInBounds_toArray, List.set_cons_zero, List.set_cons_succ, Array.toArray_toList]
            refine tkH 4 ⟨some 61, .fieldAddr 131 (.tmp 60) 3, 0, "oil.go:173", #[⟨3, .data⟩, ⟨1, .guard⟩], some (1, true)⟩ (v := ?_) hS0 ?_ ?_
            rotate_left
            · intro X ⟨x0, x1, x2, x3⟩; go_simp; try with_reducible rfl
            simp only [Act.put, List.setIfInBounds_toArray, List.set_cons_zero, List.set_cons_succ, Array.toArray_toList]
            refine tkH 5 ⟨some 62, .load 129 (.tmp 61), 129, "oil.go:173", #[⟨4, .data⟩, ⟨1, .guard⟩], some (1, true)⟩ (v := ?_) hS0 ?_ ?_
            rotate_left
            · intro X ⟨x0, x1, x2, x3⟩; go_simp; try with_reducible rfl
            simp only [Act.put, List.setIfInBounds_toArray, List.set_cons_zero, List.set_cons_succ, Array.toArray_toList]
            refine tkH 6 ⟨some 63, .fieldAddr 155 (.tmp 5) 0, 0, "oil.go:173", #[⟨1, .guard⟩], some (1, true)⟩ (v := ?_) hS0 ?_ ?_
            rotate_left
            · intro X ⟨x0, x1, x2, x3⟩; go_simp; try with_reducible rfl
            simp only [Act.put, List.setIfInBounds_toArray, List.set_cons_zero, List.set_cons_succ, Array.toArray_toList]
            refine tkH 7 ⟨some 64, .load 3 (.tmp 63), 3, "oil.go:173", #[⟨6, .data⟩, ⟨1, .guard⟩], some (1, true)⟩ (v := ?_) hS0 ?_ ?_
            rotate_left
            · intro X ⟨x0, x1, x2, x3⟩; go_simp; try with_reducible rfl
            simp only [Act.put, List.setIfInBounds_toArray, List.set_cons_zero, List.set_cons_succ, Array.toArray_toList]
            refine tkH 8 ⟨some 65, .move (.tmp 7), 3, "oil.go:173", #[⟨1, .guard⟩], some (1, true)⟩ (v := ?_) hS0 ?_ ?_
            rotate_left
            · intro X ⟨x0, x1, x2, x3⟩; go_simp; try with_reducible rfl
            simp only [Act.put, List.setIfInBounds_toArray, List.set_cons_zero, List.set_cons_succ, Array.toArray_toList]
            refine tkH 10 ⟨some 67, .move (.tmp 0), 126, "oil.go:173", #[⟨1, .guard⟩], some (1, true)⟩ (v := ?_) hS0 ?_ ?_
            rotate_left
            · intro X ⟨x0, x1, x2, x3⟩; go_simp; try with_reducible rfl
            simp only [Act.put, List.setIfInBounds_toArray, List.set_cons_zero, List.set_cons_succ, Array.toArray_toList]
            refine tkH 11 ⟨some 68, .load 155 (.tmp 8), 155, "oil.go:173", #[⟨1, .guard⟩], some (1, true)⟩ (v := ?_) hS0 ?_ ?_
            rotate_left
            · intro X ⟨x0, x1, x2, x3⟩; go_simp; try with_reducible rfl
            simp only [Act.put, List.setIfInBounds_toArray, List.set_cons_zero, List.set_cons_succ, Array.toArray_toList]
            refine tkH 14 ⟨some 71, .move (.tmp 6), 3, "oil.go:173", #[⟨1, .guard⟩], some (1, true)⟩ (v := ?_) hS0 ?_ ?_
            rotate_left
            · intro X ⟨x0, x1, x2, x3⟩; go_simp; try with_reducible rfl
            simp only [Act.put, List.setIfInBounds_toArray, List.set_cons_zero, List.set_cons_succ, Array.toArray_toList]
            refine wpAnyH_ready (rs := [9]) (by kernel_rfl) (by simp) (AllReadyH.cons (o := ⟨some 66, .call ⟨.value (.tmp 62), #[.tmp 64, .tmp 65], #[3, 3]⟩, 3, "oil.go:173", #[⟨5, .data⟩, ⟨7, .data⟩, ⟨8, .data⟩, ⟨1, .chain⟩, ⟨1, .guard⟩], some (1, true)⟩) rfl (fun K hK => ?_) AllReadyH.nil)
            go_simp
            have hco := HF.out.cost _ HE8.out.drew.old i nn hi HLO.out HHI.out
            rw [HC.out] at hco
            with_reducible refine hco.mono ?_
            clear hco
            rintro e w9 ⟨rfl, hb9⟩
            have hb9' : Below w8.heap.size w8 w9 := (Below.refl _ w8).drew.trans hb9
            have HE9 := Lib.hid (HE8.out.keep hb9')
            have HM9 := Lib.hid (HM8.out.of_block (hb9'.block _ HM8.out.lt))
            have HK9 := Lib.hid (HK8.out.trans (MK.of_below hb9'))
            have HN9 := Lib.hid ((hb9'.block _ (Array.getElem?_eq_some_iff.1 HN8.out).1).trans HN8.out)
            have HNX9 := Lib.hid ((hb9'.block _ (Array.getElem?_eq_some_iff.1 HNX.out).1).trans HNX.out)
            have HOWN9 := Lib.hid (HOWN8.out.kept (Go_grown_of_below hb9') (own_none _))
            have c0 := cell_later hb9' v7
            have c1 := cell_later hb9' v0
            have c2 := cell_later hb9' a0
            have c3 := cell_later hb9' a1
            clear hb9 hb9' v7 v0 v1 a0 a1 HE8 HM8 HK8 HN8 HNX HOWN8
            go_wp2_with fail
            refine hK.out _ _ (⟨c0, c1, c2, c3⟩) (fun hS1 => ?_)
            clear hS0 hK K
            refine wpAnyH_ready (rs := [12]) (by kernel_rfl) (by simp) (AllReadyH.cons (o := ⟨some 69, .call ⟨.value (.func 107), #[.tmp 67, .tmp 68], #[126, 155]⟩, 3, "oil.go:173", #[⟨10, .data⟩, ⟨11, .data⟩, ⟨9, .chain⟩, ⟨1, .guard⟩], some (1, true)⟩) rfl (fun K hK => ?_) AllReadyH.nil)
            go_simp
            with_reducible refine (HIH.out w9 HE9.out HM9.out).mono ?_
            rintro e w10 ⟨rfl, hk10, m2', hM10, hm10⟩
            have HM10 := Lib.hid hM10
            have HMM10 := Lib.hid hm10
            have HK10 := Lib.hid (HK9.out.trans hk10)
            have HE10 := Lib.hid (HE9.out.move hk10)
            have HN10 := Lib.hid ((hk10.block _ (Array.getElem?_eq_some_iff.1 HN9.out).1 nxk).trans HN9.out)
            have HNX10 := Lib.hid ((hk10.block _ (Array.getElem?_eq_some_iff.1 HNX9.out).1 nnk).trans HNX9.out)
            have HOWN10 := Lib.hid (own_mk HOWN9.out hk10 (by omega))
            have d0 := hk10.cell c0 nwk
            have d1 := hk10.cell c1 nxk
            have d2 := hk10.cell c2 nnk
            have d3 := hk10.cell c3 nnk
            clear hM10 hm10 hk10 c0 c1 c2 c3 HE9 HM9 HK9 HN9 HNX9 HOWN9 HIH
            go_wp2_with fail
            refine hK.out _ _ (⟨d0, d1, d2, d3⟩) (fun hS2 => ?_)
            clear hS1 hK K
            refine tkH 13 ⟨some 70, .binOp .add 3 (.tmp 66) (.tmp 69) 3, 3, "oil.go:173", #[⟨9, .data⟩, ⟨12, .data⟩, ⟨1, .guard⟩], some (1, true)⟩ (v := ?_) hS2 ?_ ?_
            rotate_left
            · intro X ⟨x0, x1, x2, x3⟩; go_simp; try with_reducible rfl
            simp only [Act.put, List.setIfInBounds_toArray, List.set_cons_zero, List.set_cons_succ, Array.toArray_toList]
            refine tkH 15 ⟨some 72, .binOp .eql 3 (.tmp 70) (.tmp 71) 3, 4, "oil.go:173", #[⟨13, .data⟩, ⟨14, .data⟩, ⟨1, .guard⟩], some (1, true)⟩ (v := ?_) hS2 ?_ ?_
            rotate_left
            · intro X ⟨x0, x1, x2, x3⟩; go_simp; try with_reducible rfl
            simp only [Act.put, List.setIfInBounds_toArray, List.set_cons_zero, List.set_cons_succ, Array.toArray_toList]
            refine tkH 16 ⟨some 73, .pick (.tmp 58) (.tmp 72) (.const (.bool false)), 4, "oil.go:173", #[⟨1, .data⟩, ⟨15, .data⟩], none⟩ (v := ?_) hS2 ?_ ?_
            rotate_left
            · intro X ⟨x0, x1, x2, x3⟩; go_simp; try with_reducible rfl
            simp only [Act.put, List.setIfInBounds_toArray, List.set_cons_zero, List.set_cons_succ, Array.toArray_toList]
            refine wpAnyH_done (by kernel_rfl) ?_ _
            clear hS2
            clear hwr
            cases eb with
            | false =>
              have hne : C + D ≠ L := by simpa using heb
              have hqm : q < m0 := by
                rcases Nat.lt_or_ge q m0 with h | h
                · exact h
                · have e : q = m0 := by omega
                  have h1 := HFS.out.2.2.1
                  rw [← e, HGQ.out] at h1
                  exact absurd (by injection h1) hne
              clear heb hne d0 d1 d2 d3
              go_wp2_with fail
              go_roundw
              case rel => exact ⟨q + 1, by omega, rfl, by rw [← HNN.out]; push_cast; congr 1; omega, HN10.out, HOWN10.out, HK10.out, _, HM10.out, HMM10.out⟩
              case measure => have h1 := HNN.out; have h2 := HHH.out; simp [intOf]; unfold numN at hm0; omega
            | true =>
              have heq : C + D = L := by simpa using heb
              have hqm : q = m0 := by
                rcases Nat.lt_or_ge q m0 with h | h
                · exact absurd (by rw [HGQ.out, heq]) (HFS.out.2.2.2 q (Nat.zero_le _) h)
                · omega
              have HEQ := Lib.hid heq
              have HQM := Lib.hid hqm
              clear heb heq hqm
              have HIB := Lib.hid (fun r e => (HOWN10.out.lt r e).1)
              have l10x := (Array.getElem?_eq_some_iff.1 HN10.out).1
              have l10n := (Array.getElem?_eq_some_iff.1 HNX10.out).1
              have hwL : IntKind.i64.wrap (L - C) = D := by rw [IntWalk.i64_in _ (by omega)]; have := HEQ.out; omega
              have hnw : nn = pickN s J r i o L := by have h1 := HPK.out; have h2 := HNN.out; have h3 := HQM.out; rw [h1, ← h2, h3]
              have hbst : bestL s J s.ns.length 0 s.sl = (xs ++ [nn]) ++ bestL s J r (i + 1) no := by
                rw [HBL.out]
                simp only [bestL]
                rw [HLL.out, ← hnw, HNO.out]
                simp
              have HBST := Lib.hid hbst
              have hDs : D + 1000 * (r : Int) < 500000 := by have h1 := HSM.out; rw [HLL.out] at h1; have h2 := HEQ.out; omega
              have HDS := Lib.hid hDs
              obtain ⟨i0, hi0', hz0', hz1', hz2'⟩ := info_parts Try.info3
              have hi0 := Lib.hid hi0'
              have hz0 := Lib.hid hz0'
              have hz1 := Lib.hid hz1'
              have hz2 := Lib.hid hz2'
              have hbq : Below w10.heap.size w10 (w10.drew.alloc (.cells #[.int .i64 nn] 3)) := (Below.refl _ w10).drew.alloc (Nat.le_refl _) _
              clear hi0' hz0' hz1' hz2' hnw hbst hDs
              have e1 : w10.cell? ⟨Bx, 1, none⟩ = some (.int .i64 o) := by simp [World.cell?, HN10.out]
              go_wp2_with fail
              refine wp_region_held_drew (S := fun X => X.cell? ⟨Bw, 7, none⟩ = some (.func (.func 87) #[] #[.pointer (some ⟨Bs, 0, none⟩)]) ∧ X.cell? ⟨Bn, 0, none⟩ = some (.int .i64 ((i : Int) + 1)) ∧ X.cell? ⟨Bn, 1, none⟩ = some (.int .i64 no)) (by kernel_rfl) (⟨d0, d2, d3⟩) (fun hS0 => ?_)
              refine tkH 0 ⟨some 74, .move (.tmp 2), 27, "oil.go:174", #[], none⟩ (v := ?_) hS0 ?_ ?_
              rotate_left
              · intro X ⟨x0, x1, x2⟩; go_simp; try with_reducible rfl
              simp only [Act.put, List.setIfInBounds_toArray, List.set_cons_zero, List.set_cons_succ, Array.toArray_toList]
              refine tkH 1 ⟨some 75, .move (.tmp 7), 3, "oil.go:174", #[], none⟩ (v := ?_) hS0 ?_ ?_
              rotate_left
              · intro X ⟨x0, x1, x2⟩; go_simp; try with_reducible rfl
              simp only [Act.put, List.setIfInBounds_toArray, List.set_cons_zero, List.set_cons_succ, Array.toArray_toList]
              refine tkH 4 ⟨some 78, .move (.tmp 6), 3, "oil.go:174", #[{ on := 15, ground := Ground.gcOnly Departure.lateStores }], none⟩ (v := ?_) hS0 ?_ ?_
              rotate_left
              · intro X ⟨x0, x1, x2⟩; go_simp; try with_reducible rfl
              simp only [Act.put, List.setIfInBounds_toArray, List.set_cons_zero, List.set_cons_succ, Array.toArray_toList]
              refine tkH 5 ⟨some 79, .move (.tmp 0), 126, "oil.go:174", #[], none⟩ (v := ?_) hS0 ?_ ?_
              rotate_left
              · intro X ⟨x0, x1, x2⟩; go_simp; try with_reducible rfl
              simp only [Act.put, List.setIfInBounds_toArray, List.set_cons_zero, List.set_cons_succ, Array.toArray_toList]
              refine tkH 6 ⟨some 80, .nilCheck (.tmp 79), 0, "oil.go:174", #[⟨5, .data⟩], none⟩ (v := ?_) hS0 ?_ ?_
              rotate_left
              · intro X ⟨x0, x1, x2⟩; go_simp; try with_reducible rfl
              simp only [Act.put, List.setIfInBounds_toArray, List.set_cons_zero, List.set_cons_succ, Array.toArray_toList]
              refine tkH 7 ⟨some 81, .fieldAddr 131 (.tmp 80) 3, 0, "oil.go:174", #[⟨6, .data⟩], none⟩ (v := ?_) hS0 ?_ ?_
              rotate_left
              · intro X ⟨x0, x1, x2⟩; go_simp; try with_reducible rfl
              simp only [Act.put, List.setIfInBounds_toArray, List.set_cons_zero, List.set_cons_succ, Array.toArray_toList]
              refine tkH 8 ⟨some 82, .load 129 (.tmp 81), 129, "oil.go:174", #[⟨7, .data⟩], none⟩ (v := ?_) hS0 ?_ ?_
              rotate_left
              · intro X ⟨x0, x1, x2⟩; go_simp; try with_reducible rfl
              simp only [Act.put, List.setIfInBounds_toArray, List.set_cons_zero, List.set_cons_succ, Array.toArray_toList]
              refine tkH 9 ⟨some 83, .fieldAddr 155 (.tmp 5) 0, 0, "oil.go:174", #[], none⟩ (v := ?_) hS0 ?_ ?_
              rotate_left
              · intro X ⟨x0, x1, x2⟩; go_simp; try with_reducible rfl
              simp only [Act.put, List.setIfInBounds_toArray, List.set_cons_zero, List.set_cons_succ, Array.toArray_toList]
              refine tkH 11 ⟨some 85, .move (.tmp 7), 3, "oil.go:174", #[], none⟩ (v := ?_) hS0 ?_ ?_
              rotate_left
              · intro X ⟨x0, x1, x2⟩; go_simp; try with_reducible rfl
              simp only [Act.put, List.setIfInBounds_toArray, List.set_cons_zero, List.set_cons_succ, Array.toArray_toList]
              refine tkH 14 ⟨some 88, .load 155 (.tmp 8), 155, "oil.go:174", #[{ on := 16, ground := Ground.gcOnly Departure.lateStores }], none⟩ (v := ?_) hS0 ?_ ?_
              rotate_left
              · intro X ⟨x0, x1, x2⟩; go_simp; try with_reducible rfl
              simp only [Act.put, List.setIfInBounds_toArray, List.set_cons_zero, List.set_cons_succ, Array.toArray_toList]
              refine wpAnyH_ready (rs := [2, 10]) (by kernel_rfl) (by simp) (AllReadyH.cons (o := ⟨some 76, .buildSlice 27 1 #[(0, .tmp 75)], 27, "oil.go:174", #[⟨1, .data⟩], none⟩) rfl (fun K hK => ?_) (AllReadyH.cons (o := ⟨some 84, .load 3 (.tmp 83), 3, "oil.go:174", #[⟨9, .data⟩], none⟩) rfl (fun K hK => ?_) AllReadyH.nil))
              · skip
                go_simp
                refine hK.out _ _ (⟨cell_later hbq d0, cell_later hbq d2, cell_later hbq d3⟩) (fun hS1 => ?_)
                clear hS0 hK K
                refine wpAnyH_ready (rs := [3, 10]) (by kernel_rfl) (by simp) (AllReadyH.cons (o := ⟨some 77, .call ⟨.builtin .append, #[.tmp 74, .tmp 76], #[27, 27]⟩, 27, "oil.go:174", #[⟨0, .data⟩, ⟨2, .data⟩], none⟩) rfl (fun K hK => ?_) (AllReadyH.cons (o := ⟨some 84, .load 3 (.tmp 83), 3, "oil.go:174", #[⟨9, .data⟩], none⟩) rfl (fun K hK => ?_) AllReadyH.nil))
                · skip
                  refine step_append_lies _ (by rfl) _ _ _ (by rfl) (Bx + 1) 3 i0 _ 1 8 Try.underlying27 hi0.out hz0.out hz1.out hz2.out rfl (by omega) u2 xs.length _ (by rfl) (own_drew_alloc' HOWN10.out _) ⟨w10.heap.size, 0, none⟩ 1 1 [.int .i64 nn] (by rfl) (by rfl) (World.news_of_block (cs := #[.int .i64 nn]) (t := 3) (fr := (0, 0)) (Go.heap_alloc_new w10.drew _)) (by simp [Value.oneCell']) (by omega) (by unfold maxLen; omega) (by omega) (by simp; omega) (w10.heap.size + 1) (by simp) ?_
                  intro gg cap' w11 hown11 hgrow hat hlt11
                  have HX := Lib.hid (after_app hgrow HIB.out HRN.out)
                  have HOWN11 := Lib.hid (show w11.ownsRow (Bx + 1) 3 1 (.slice (some ⟨gg, 0, none⟩) (xs.length + 1) cap') (xs ++ [nn]).length ((xs ++ [nn]).map (Value.int .i64)) by rw [List.map_append, List.length_append]; exact hown11)
                  have HK11 := Lib.hid ((HK10.out.trans (MK.of_below hbq)).grown hgrow (fun r e => by have := HIB.out r e; omega))
                  have HE11 := Lib.hid (HE.out.move HK11.out)
                  have HM11 := Lib.hid (HM10.out.of_block (HX.out.1 Bk HM10.out.lt (by omega)))
                  have HN11 := Lib.hid ((HX.out.1 Bx l10x (Nat.le_refl _)).trans HN10.out)
                  have HNX11 := Lib.hid ((HX.out.2 Bn l10n (Nat.le_refl _)).trans HNX10.out)
                  have k0 : w11.cell? ⟨Bw, 7, none⟩ = some (.func (.func 87) #[] #[.pointer (some ⟨Bs, 0, none⟩)]) := (World.cell?_of_block (a := ⟨Bw, 7, none⟩) (HX.out.1 Bw (World.block_lt_of_cell? w10 _ d0) (by omega))).trans d0
                  have k1 : w11.cell? ⟨Bx, 0, none⟩ = some (.int .i64 (i : Int)) := by simp [World.cell?, HN11.out]
                  have k2 : w11.cell? ⟨Bn, 0, none⟩ = some (.int .i64 ((i : Int) + 1)) := by simp [World.cell?, HNX11.out]
                  have k3 : w11.cell? ⟨Bn, 1, none⟩ = some (.int .i64 no) := by simp [World.cell?, HNX11.out]
                  clear hown11 hgrow hat hlt11 HX
                  refine hK.out _ _ (⟨k0, k2, k3⟩) (fun hS2 => ?_)
                  clear hS1 hK K
                  refine wpAnyH_ready (rs := [10]) (by kernel_rfl) (by simp) (AllReadyH.cons (o := ⟨some 84, .load 3 (.tmp 83), 3, "oil.go:174", #[⟨9, .data⟩], none⟩) rfl (fun K hK => ?_) AllReadyH.nil)
                  go_simp
                  refine hK.out _ _ (hS2) (fun hS3 => ?_)
                  clear hS2 hK K
                  refine wpAnyH_ready (rs := [12]) (by kernel_rfl) (by simp) (AllReadyH.cons (o := ⟨some 86, .call ⟨.value (.tmp 82), #[.tmp 84, .tmp 85], #[3, 3]⟩, 3, "oil.go:174", #[⟨8, .data⟩, ⟨10, .data⟩, ⟨11, .data⟩, ⟨3, .chain⟩], none⟩) rfl (fun K hK => ?_) AllReadyH.nil)
                  go_simp
                  have hco := HF.out.cost w11 HE11.out.old i nn hi HLO.out HHI.out
                  rw [HC.out] at hco
                  with_reducible refine hco.mono ?_
                  clear hco
                  rintro e w12 ⟨rfl, hb12⟩
                  have HK12 := Lib.hid (HK11.out.trans (MK.of_below hb12))
                  have HM12 := Lib.hid (HM11.out.of_block (hb12.block _ HM11.out.lt))
                  have hn12 := (hb12.block _ (Array.getElem?_eq_some_iff.1 HN11.out).1).trans HN11.out
                  have HOWN12 := Lib.hid (HOWN11.out.kept (Go_grown_of_below hb12) (own_none _))
                  have j0 := cell_later hb12 k0
                  have j2 := cell_later hb12 k2
                  have j3 := cell_later hb12 k3
                  have x0 : w12.cell? ⟨Bx, 0, none⟩ = some (.int .i64 (i : Int)) := by simp [World.cell?, hn12]
                  have x1 : w12.cell? ⟨Bx, 1, none⟩ = some (.int .i64 o) := by simp [World.cell?, hn12]
                  have z0 : w12.frozen? ⟨Bx, 0, none⟩ = false := by simp [World.frozen?, hn12]
                  have z1 : w12.frozen? ⟨Bx, 1, none⟩ = false := by simp [World.frozen?, hn12]
                  have HN12 := Lib.hid hn12
                  clear hb12 hn12 k0 k1 k2 k3
                  go_wp2_with fail
                  refine hK.out _ _ (⟨j0, j2, j3⟩) (fun hS4 => ?_)
                  clear hS3 hK K
                  refine tkH 13 ⟨some 87, .binOp .sub 3 (.tmp 78) (.tmp 86) 3, 3, "oil.go:174", #[⟨4, .data⟩, ⟨12, .data⟩, { on := 15, ground := Ground.gcOnly Departure.lateStores }], none⟩ (v := ?_) hS4 ?_ ?_
                  rotate_left
                  · intro X ⟨x0, x1, x2⟩; go_simp; try with_reducible rfl
                  simp only [Act.put, List.setIfInBounds_toArray, List.set_cons_zero, List.set_cons_succ, Array.toArray_toList]
                  refine tkH 15 ⟨some 2, .assign (.tmp 77), 27, "oil.go:174", #[⟨3, .data⟩, ⟨12, .chain⟩, ⟨0, .phase⟩, ⟨1, .phase⟩, ⟨2, .phase⟩, ⟨3, .phase⟩, ⟨4, .textOnly .lateStores⟩, ⟨5, .textOnly .lateStores⟩, ⟨6, .textOnly .lateStores⟩, ⟨7, .textOnly .lateStores⟩, ⟨8, .textOnly .lateStores⟩, ⟨9, .textOnly .lateStores⟩, ⟨10, .textOnly .lateStores⟩, ⟨11, .textOnly .lateStores⟩, ⟨12, .textOnly .lateStoresUnsure⟩, ⟨13, .textOnly .lateStores⟩, ⟨14, .textOnly .lateStores⟩], none⟩ (v := ?_) hS4 ?_ ?_
                  rotate_left
                  · intro X ⟨x0, x1, x2⟩; go_simp; try with_reducible rfl
                  simp only [Act.put, List.setIfInBounds_toArray, List.set_cons_zero, List.set_cons_succ, Array.toArray_toList]
                  refine tkH 16 ⟨some 6, .assign (.tmp 87), 3, "oil.go:174", #[⟨13, .data⟩, ⟨15, .chain⟩, ⟨0, .phase⟩, ⟨1, .phase⟩, ⟨2, .phase⟩, ⟨3, .phase⟩, ⟨4, .phase⟩, ⟨5, .phase⟩, ⟨6, .phase⟩, ⟨7, .phase⟩, ⟨8, .phase⟩, ⟨9, .phase⟩, ⟨10, .phase⟩, ⟨11, .phase⟩, ⟨12, .phase⟩, ⟨13, .phase⟩, ⟨14, .textOnly .lateStores⟩, ⟨15, .phase⟩], none⟩ (v := ?_) hS4 ?_ ?_
                  rotate_left
                  · intro X ⟨x0, x1, x2⟩; go_simp; try with_reducible rfl
                  simp only [Act.put, List.setIfInBounds_toArray, List.set_cons_zero, List.set_cons_succ, Array.toArray_toList]
                  refine wpAnyH_ready (rs := [17]) (by kernel_rfl) (by simp) (AllReadyH.cons (o := ⟨none, .store 155 (.tmp 5) (.tmp 88), 0, "oil.go:174", #[⟨14, .data⟩, ⟨16, .chain⟩, ⟨0, .phase⟩, ⟨1, .phase⟩, ⟨2, .phase⟩, ⟨3, .phase⟩, ⟨4, .phase⟩, ⟨5, .phase⟩, ⟨6, .phase⟩, ⟨7, .phase⟩, ⟨8, .phase⟩, ⟨9, .phase⟩, ⟨10, .phase⟩, ⟨11, .phase⟩, ⟨12, .phase⟩, ⟨13, .phase⟩, ⟨14, .phase⟩, ⟨15, .phase⟩, ⟨16, .phase⟩], none⟩) rfl (fun K hK => ?_) AllReadyH.nil)
                  go_simp
                  refine hK.out _ _ ((keepSS ⟨j0, j2, j3⟩ nwx nnx nnx)) (fun hS5 => ?_)
                  clear hS4 hK K
                  refine wpAnyH_done (by kernel_rfl) ?_ _
                  clear hS5
                  have hq13 : ((w12.setCell ⟨Bx, 0, none⟩ (.int .i64 ((i : Int) + 1))).setCell ⟨Bx, 1, none⟩ (.int .i64 no)).heap[Bx]? = some (.cells #[.int .i64 ((i : Int) + 1), .int .i64 no] 155 (0, 0)) := by simp [World.setCell, Array.getElem?_modify, HN12.out]
                  have HQ13 := Lib.hid hq13
                  have HK13 := Lib.hid ((HK12.out.set wbx 0 (.int .i64 ((i : Int) + 1))).set wbx 1 (.int .i64 no))
                  have HO13 := Lib.hid (ownsRow_setCell_below (ownsRow_setCell_below HOWN12.out (a := ⟨Bx, 0, none⟩) (Nat.lt_succ_self _) (.int .i64 ((i : Int) + 1))) (a := ⟨Bx, 1, none⟩) (Nat.lt_succ_self _) (.int .i64 no))
                  have HM13 := Lib.hid ((HM12.out.of_block (w' := w12.setCell ⟨Bx, 0, none⟩ (.int .i64 ((i : Int) + 1))) (Below.heap_setCell _ _ _ _ (Ne.symm nxk))).of_block (w' := (w12.setCell ⟨Bx, 0, none⟩ (.int .i64 ((i : Int) + 1))).setCell ⟨Bx, 1, none⟩ (.int .i64 no)) (Below.heap_setCell _ _ _ _ (Ne.symm nxk)))
                  clear hq13 j0 j2 j3 x0 x1 z0 z1 hwL d0 d1 d2 d3 e1
                  go_wp2_with fail
                  go_roundw
                  case rel => exact ⟨i + 1, r, no, xs ++ [nn], by have := HIR.out; omega, HQ13.out, hnob, by simp [HXL.out], HO13.out, by rw [HD.out], by rw [HD.out]; exact HDS.out, HBST.out, HK13.out, _, HM13.out, HMM10.out⟩
                  case measure =>
                    have hq0 : ((w12.setCell ⟨Bx, 0, none⟩ (.int .i64 ((i : Int) + 1))).setCell ⟨Bx, 1, none⟩ (.int .i64 no)).cell? ⟨Bx, 0, none⟩ = some (.int .i64 ((i : Int) + 1)) := by simp [World.cell?, HQ13.out]
                    rw [hq0, HU0.out]
                    show s.ns.length - ((i : Int) + 1).toNat < s.ns.length - (i : Int).toNat
                    omega
                · skip
                  go_simp
                  refine hK.out _ _ (hS1) (fun hS2 => ?_)
                  clear hS1 hK K
                  refine wpAnyH_ready (rs := [3]) (by kernel_rfl) (by simp) (AllReadyH.cons (o := ⟨some 77, .call ⟨.builtin .append, #[.tmp 74, .tmp 76], #[27, 27]⟩, 27, "oil.go:174", #[⟨0, .data⟩, ⟨2, .data⟩], none⟩) rfl (fun K hK => ?_) AllReadyH.nil)
                  refine step_append_lies _ (by rfl) _ _ _ (by rfl) (Bx + 1) 3 i0 _ 1 8 Try.underlying27 hi0.out hz0.out hz1.out hz2.out rfl (by omega) u2 xs.length _ (by rfl) (own_drew_alloc' HOWN10.out _) ⟨w10.heap.size, 0, none⟩ 1 1 [.int .i64 nn] (by rfl) (by rfl) (World.news_of_block (cs := #[.int .i64 nn]) (t := 3) (fr := (0, 0)) (Go.heap_alloc_new w10.drew _)) (by simp [Value.oneCell']) (by omega) (by unfold maxLen; omega) (by omega) (by simp; omega) (w10.heap.size + 1) (by simp) ?_
                  intro gg cap' w11 hown11 hgrow hat hlt11
                  have HX := Lib.hid (after_app hgrow HIB.out HRN.out)
                  have HOWN11 := Lib.hid (show w11.ownsRow (Bx + 1) 3 1 (.slice (some ⟨gg, 0, none⟩) (xs.length + 1) cap') (xs ++ [nn]).length ((xs ++ [nn]).map (Value.int .i64)) by rw [List.map_append, List.length_append]; exact hown11)
                  have HK11 := Lib.hid ((HK10.out.trans (MK.of_below hbq)).grown hgrow (fun r e => by have := HIB.out r e; omega))
                  have HE11 := Lib.hid (HE.out.move HK11.out)
                  have HM11 := Lib.hid (HM10.out.of_block (HX.out.1 Bk HM10.out.lt (by omega)))
                  have HN11 := Lib.hid ((HX.out.1 Bx l10x (Nat.le_refl _)).trans HN10.out)
                  have HNX11 := Lib.hid ((HX.out.2 Bn l10n (Nat.le_refl _)).trans HNX10.out)
                  have k0 : w11.cell? ⟨Bw, 7, none⟩ = some (.func (.func 87) #[] #[.pointer (some ⟨Bs, 0, none⟩)]) := (World.cell?_of_block (a := ⟨Bw, 7, none⟩) (HX.out.1 Bw (World.block_lt_of_cell? w10 _ d0) (by omega))).trans d0
                  have k1 : w11.cell? ⟨Bx, 0, none⟩ = some (.int .i64 (i : Int)) := by simp [World.cell?, HN11.out]
                  have k2 : w11.cell? ⟨Bn, 0, none⟩ = some (.int .i64 ((i : Int) + 1)) := by simp [World.cell?, HNX11.out]
                  have k3 : w11.cell? ⟨Bn, 1, none⟩ = some (.int .i64 no) := by simp [World.cell?, HNX11.out]
                  clear hown11 hgrow hat hlt11 HX
                  refine hK.out _ _ (⟨k0, k2, k3⟩) (fun hS3 => ?_)
                  clear hS2 hK K
                  simp only [Act.put, List.setIfInBounds_toArray, List.set_cons_zero, List.set_cons_succ, Array.toArray_toList]
                  refine wpAnyH_ready (rs := [12]) (by kernel_rfl) (by simp) (AllReadyH.cons (o := ⟨some 86, .call ⟨.value (.tmp 82), #[.tmp 84, .tmp 85], #[3, 3]⟩, 3, "oil.go:174", #[⟨8, .data⟩, ⟨10, .data⟩, ⟨11, .data⟩, ⟨3, .chain⟩], none⟩) rfl (fun K hK => ?_) AllReadyH.nil)
                  go_simp
                  have hco := HF.out.cost w11 HE11.out.old i nn hi HLO.out HHI.out
                  rw [HC.out] at hco
                  with_reducible refine hco.mono ?_
                  clear hco
                  rintro e w12 ⟨rfl, hb12⟩
                  have HK12 := Lib.hid (HK11.out.trans (MK.of_below hb12))
                  have HM12 := Lib.hid (HM11.out.of_block (hb12.block _ HM11.out.lt))
                  have hn12 := (hb12.block _ (Array.getElem?_eq_some_iff.1 HN11.out).1).trans HN11.out
                  have HOWN12 := Lib.hid (HOWN11.out.kept (Go_grown_of_below hb12) (own_none _))
                  have j0 := cell_later hb12 k0
                  have j2 := cell_later hb12 k2
                  have j3 := cell_later hb12 k3
                  have x0 : w12.cell? ⟨Bx, 0, none⟩ = some (.int .i64 (i : Int)) := by simp [World.cell?, hn12]
                  have x1 : w12.cell? ⟨Bx, 1, none⟩ = some (.int .i64 o) := by simp [World.cell?, hn12]
                  have z0 : w12.frozen? ⟨Bx, 0, none⟩ = false := by simp [World.frozen?, hn12]
                  have z1 : w12.frozen? ⟨Bx, 1, none⟩ = false := by simp [World.frozen?, hn12]
                  have HN12 := Lib.hid hn12
                  clear hb12 hn12 k0 k1 k2 k3
                  go_wp2_with fail
                  refine hK.out _ _ (⟨j0, j2, j3⟩) (fun hS4 => ?_)
                  clear hS3 hK K
                  refine tkH 13 ⟨some 87, .binOp .sub 3 (.tmp 78) (.tmp 86) 3, 3, "oil.go:174", #[⟨4, .data⟩, ⟨12, .data⟩, { on := 15, ground := Ground.gcOnly Departure.lateStores }], none⟩ (v := ?_) hS4 ?_ ?_
                  rotate_left
                  · intro X ⟨x0, x1, x2⟩; go_simp; try with_reducible rfl
                  simp only [Act.put, List.setIfInBounds_toArray, List.set_cons_zero, List.set_cons_succ, Array.toArray_toList]
                  refine tkH 15 ⟨some 2, .assign (.tmp 77), 27, "oil.go:174", #[⟨3, .data⟩, ⟨12, .chain⟩, ⟨0, .phase⟩, ⟨1, .phase⟩, ⟨2, .phase⟩, ⟨3, .phase⟩, ⟨4, .textOnly .lateStores⟩, ⟨5, .textOnly .lateStores⟩, ⟨6, .textOnly .lateStores⟩, ⟨7, .textOnly .lateStores⟩, ⟨8, .textOnly .lateStores⟩, ⟨9, .textOnly .lateStores⟩, ⟨10, .textOnly .lateStores⟩, ⟨11, .textOnly .lateStores⟩, ⟨12, .textOnly .lateStoresUnsure⟩, ⟨13, .textOnly .lateStores⟩, ⟨14, .textOnly .lateStores⟩], none⟩ (v := ?_) hS4 ?_ ?_
                  rotate_left
                  · intro X ⟨x0, x1, x2⟩; go_simp; try with_reducible rfl
                  simp only [Act.put, List.setIfInBounds_toArray, List.set_cons_zero, List.set_cons_succ, Array.toArray_toList]
                  refine tkH 16 ⟨some 6, .assign (.tmp 87), 3, "oil.go:174", #[⟨13, .data⟩, ⟨15, .chain⟩, ⟨0, .phase⟩, ⟨1, .phase⟩, ⟨2, .phase⟩, ⟨3, .phase⟩, ⟨4, .phase⟩, ⟨5, .phase⟩, ⟨6, .phase⟩, ⟨7, .phase⟩, ⟨8, .phase⟩, ⟨9, .phase⟩, ⟨10, .phase⟩, ⟨11, .phase⟩, ⟨12, .phase⟩, ⟨13, .phase⟩, ⟨14, .textOnly .lateStores⟩, ⟨15, .phase⟩], none⟩ (v := ?_) hS4 ?_ ?_
                  rotate_left
                  · intro X ⟨x0, x1, x2⟩; go_simp; try with_reducible rfl
                  simp only [Act.put, List.setIfInBounds_toArray, List.set_cons_zero, List.set_cons_succ, Array.toArray_toList]
                  refine wpAnyH_ready (rs := [17]) (by kernel_rfl) (by simp) (AllReadyH.cons (o := ⟨none, .store 155 (.tmp 5) (.tmp 88), 0, "oil.go:174", #[⟨14, .data⟩, ⟨16, .chain⟩, ⟨0, .phase⟩, ⟨1, .phase⟩, ⟨2, .phase⟩, ⟨3, .phase⟩, ⟨4, .phase⟩, ⟨5, .phase⟩, ⟨6, .phase⟩, ⟨7, .phase⟩, ⟨8, .phase⟩, ⟨9, .phase⟩, ⟨10, .phase⟩, ⟨11, .phase⟩, ⟨12, .phase⟩, ⟨13, .phase⟩, ⟨14, .phase⟩, ⟨15, .phase⟩, ⟨16, .phase⟩], none⟩) rfl (fun K hK => ?_) AllReadyH.nil)
                  go_simp
                  refine hK.out _ _ ((keepSS ⟨j0, j2, j3⟩ nwx nnx nnx)) (fun hS5 => ?_)
                  clear hS4 hK K
                  refine wpAnyH_done (by kernel_rfl) ?_ _
                  clear hS5
                  have hq13 : ((w12.setCell ⟨Bx, 0, none⟩ (.int .i64 ((i : Int) + 1))).setCell ⟨Bx, 1, none⟩ (.int .i64 no)).heap[Bx]? = some (.cells #[.int .i64 ((i : Int) + 1), .int .i64 no] 155 (0, 0)) := by simp [World.setCell, Array.getElem?_modify, HN12.out]
                  have HQ13 := Lib.hid hq13
                  have HK13 := Lib.hid ((HK12.out.set wbx 0 (.int .i64 ((i : Int) + 1))).set wbx 1 (.int .i64 no))
                  have HO13 := Lib.hid (ownsRow_setCell_below (ownsRow_setCell_below HOWN12.out (a := ⟨Bx, 0, none⟩) (Nat.lt_succ_self _) (.int .i64 ((i : Int) + 1))) (a := ⟨Bx, 1, none⟩) (Nat.lt_succ_self _) (.int .i64 no))
                  have HM13 := Lib.hid ((HM12.out.of_block (w' := w12.setCell ⟨Bx, 0, none⟩ (.int .i64 ((i : Int) + 1))) (Below.heap_setCell _ _ _ _ (Ne.symm nxk))).of_block (w' := (w12.setCell ⟨Bx, 0, none⟩ (.int .i64 ((i : Int) + 1))).setCell ⟨Bx, 1, none⟩ (.int .i64 no)) (Below.heap_setCell _ _ _ _ (Ne.symm nxk)))
                  clear hq13 j0 j2 j3 x0 x1 z0 z1 hwL d0 d1 d2 d3 e1
                  go_wp2_with fail
                  go_roundw
                  case rel => exact ⟨i + 1, r, no, xs ++ [nn], by have := HIR.out; omega, HQ13.out, hnob, by simp [HXL.out], HO13.out, by rw [HD.out], by rw [HD.out]; exact HDS.out, HBST.out, HK13.out, _, HM13.out, HMM10.out⟩
                  case measure =>
                    have hq0 : ((w12.setCell ⟨Bx, 0, none⟩ (.int .i64 ((i : Int) + 1))).setCell ⟨Bx, 1, none⟩ (.int .i64 no)).cell? ⟨Bx, 0, none⟩ = some (.int .i64 ((i : Int) + 1)) := by simp [World.cell?, HQ13.out]
                    rw [hq0, HU0.out]
                    show s.ns.length - ((i : Int) + 1).toNat < s.ns.length - (i : Int).toNat
                    omega
              · skip
                go_simp
                refine hK.out _ _ (hS0) (fun hS1 => ?_)
                clear hS0 hK K
                refine wpAnyH_ready (rs := [2]) (by kernel_rfl) (by simp) (AllReadyH.cons (o := ⟨some 76, .buildSlice 27 1 #[(0, .tmp 75)], 27, "oil.go:174", #[⟨1, .data⟩], none⟩) rfl (fun K hK => ?_) AllReadyH.nil)
                go_simp
                refine hK.out _ _ (⟨cell_later hbq d0, cell_later hbq d2, cell_later hbq d3⟩) (fun hS2 => ?_)
                clear hS1 hK K
                refine wpAnyH_ready (rs := [3]) (by kernel_rfl) (by simp) (AllReadyH.cons (o := ⟨some 77, .call ⟨.builtin .append, #[.tmp 74, .tmp 76], #[27, 27]⟩, 27, "oil.go:174", #[⟨0, .data⟩, ⟨2, .data⟩], none⟩) rfl (fun K hK => ?_) AllReadyH.nil)
                refine step_append_lies _ (by rfl) _ _ _ (by rfl) (Bx + 1) 3 i0 _ 1 8 Try.underlying27 hi0.out hz0.out hz1.out hz2.out rfl (by omega) u2 xs.length _ (by rfl) (own_drew_alloc' HOWN10.out _) ⟨w10.heap.size, 0, none⟩ 1 1 [.int .i64 nn] (by rfl) (by rfl) (World.news_of_block (cs := #[.int .i64 nn]) (t := 3) (fr := (0, 0)) (Go.heap_alloc_new w10.drew _)) (by simp [Value.oneCell']) (by omega) (by unfold maxLen; omega) (by omega) (by simp; omega) (w10.heap.size + 1) (by simp) ?_
                intro gg cap' w11 hown11 hgrow hat hlt11
                have HX := Lib.hid (after_app hgrow HIB.out HRN.out)
                have HOWN11 := Lib.hid (show w11.ownsRow (Bx + 1) 3 1 (.slice (some ⟨gg, 0, none⟩) (xs.length + 1) cap') (xs ++ [nn]).length ((xs ++ [nn]).map (Value.int .i64)) by rw [List.map_append, List.length_append]; exact hown11)
                have HK11 := Lib.hid ((HK10.out.trans (MK.of_below hbq)).grown hgrow (fun r e => by have := HIB.out r e; omega))
                have HE11 := Lib.hid (HE.out.move HK11.out)
                have HM11 := Lib.hid (HM10.out.of_block (HX.out.1 Bk HM10.out.lt (by omega)))
                have HN11 := Lib.hid ((HX.out.1 Bx l10x (Nat.le_refl _)).trans HN10.out)
                have HNX11 := Lib.hid ((HX.out.2 Bn l10n (Nat.le_refl _)).trans HNX10.out)
                have k0 : w11.cell? ⟨Bw, 7, none⟩ = some (.func (.func 87) #[] #[.pointer (some ⟨Bs, 0, none⟩)]) := (World.cell?_of_block (a := ⟨Bw, 7, none⟩) (HX.out.1 Bw (World.block_lt_of_cell? w10 _ d0) (by omega))).trans d0
                have k1 : w11.cell? ⟨Bx, 0, none⟩ = some (.int .i64 (i : Int)) := by simp [World.cell?, HN11.out]
                have k2 : w11.cell? ⟨Bn, 0, none⟩ = some (.int .i64 ((i : Int) + 1)) := by simp [World.cell?, HNX11.out]
                have k3 : w11.cell? ⟨Bn, 1, none⟩ = some (.int .i64 no) := by simp [World.cell?, HNX11.out]
                clear hown11 hgrow hat hlt11 HX
                refine hK.out _ _ (⟨k0, k2, k3⟩) (fun hS3 => ?_)
                clear hS2 hK K
                simp only [Act.put, List.setIfInBounds_toArray, List.set_cons_zero, List.set_cons_succ, Array.toArray_toList]
                refine wpAnyH_ready (rs := [12]) (by kernel_rfl) (by simp) (AllReadyH.cons (o := ⟨some 86, .call ⟨.value (.tmp 82), #[.tmp 84, .tmp 85], #[3, 3]⟩, 3, "oil.go:174", #[⟨8, .data⟩, ⟨10, .data⟩, ⟨11, .data⟩, ⟨3, .chain⟩], none⟩) rfl (fun K hK => ?_) AllReadyH.nil)
                go_simp
                have hco := HF.out.cost w11 HE11.out.old i nn hi HLO.out HHI.out
                rw [HC.out] at hco
                with_reducible refine hco.mono ?_
                clear hco
                rintro e w12 ⟨rfl, hb12⟩
                have HK12 := Lib.hid (HK11.out.trans (MK.of_below hb12))
                have HM12 := Lib.hid (HM11.out.of_block (hb12.block _ HM11.out.lt))
                have hn12 := (hb12.block _ (Array.getElem?_eq_some_iff.1 HN11.out).1).trans HN11.out
                have HOWN12 := Lib.hid (HOWN11.out.kept (Go_grown_of_below hb12) (own_none _))
                have j0 := cell_later hb12 k0
                have j2 := cell_later hb12 k2
                have j3 := cell_later hb12 k3
                have x0 : w12.cell? ⟨Bx, 0, none⟩ = some (.int .i64 (i : Int)) := by simp [World.cell?, hn12]
                have x1 : w12.cell? ⟨Bx, 1, none⟩ = some (.int .i64 o) := by simp [World.cell?, hn12]
                have z0 : w12.frozen? ⟨Bx, 0, none⟩ = false := by simp [World.frozen?, hn12]
                have z1 : w12.frozen? ⟨Bx, 1, none⟩ = false := by simp [World.frozen?, hn12]
                have HN12 := Lib.hid hn12
                clear hb12 hn12 k0 k1 k2 k3
                go_wp2_with fail
                refine hK.out _ _ (⟨j0, j2, j3⟩) (fun hS4 => ?_)
                clear hS3 hK K
                refine tkH 13 ⟨some 87, .binOp .sub 3 (.tmp 78) (.tmp 86) 3, 3, "oil.go:174", #[⟨4, .data⟩, ⟨12, .data⟩, { on := 15, ground := Ground.gcOnly Departure.lateStores }], none⟩ (v := ?_) hS4 ?_ ?_
                rotate_left
                · intro X ⟨x0, x1, x2⟩; go_simp; try with_reducible rfl
                simp only [Act.put, List.setIfInBounds_toArray, List.set_cons_zero, List.set_cons_succ, Array.toArray_toList]
                refine tkH 15 ⟨some 2, .assign (.tmp 77), 27, "oil.go:174", #[⟨3, .data⟩, ⟨12, .chain⟩, ⟨0, .phase⟩, ⟨1, .phase⟩, ⟨2, .phase⟩, ⟨3, .phase⟩, ⟨4, .textOnly .lateStores⟩, ⟨5, .textOnly .lateStores⟩, ⟨6, .textOnly .lateStores⟩, ⟨7, .textOnly .lateStores⟩, ⟨8, .textOnly .lateStores⟩, ⟨9, .textOnly .lateStores⟩, ⟨10, .textOnly .lateStores⟩, ⟨11, .textOnly .lateStores⟩, ⟨12, .textOnly .lateStoresUnsure⟩, ⟨13, .textOnly .lateStores⟩, ⟨14, .textOnly .lateStores⟩], none⟩ (v := ?_) hS4 ?_ ?_
                rotate_left
                · intro X ⟨x0, x1, x2⟩; go_simp; try with_reducible rfl
                simp only [Act.put, List.setIfInBounds_toArray, List.set_cons_zero, List.set_cons_succ, Array.toArray_toList]
                refine tkH 16 ⟨some 6, .assign (.tmp 87), 3, "oil.go:174", #[⟨13, .data⟩, ⟨15, .chain⟩, ⟨0, .phase⟩, ⟨1, .phase⟩, ⟨2, .phase⟩, ⟨3, .phase⟩, ⟨4, .phase⟩, ⟨5, .phase⟩, ⟨6, .phase⟩, ⟨7, .phase⟩, ⟨8, .phase⟩, ⟨9, .phase⟩, ⟨10, .phase⟩, ⟨11, .phase⟩, ⟨12, .phase⟩, ⟨13, .phase⟩, ⟨14, .textOnly .lateStores⟩, ⟨15, .phase⟩], none⟩ (v := ?_) hS4 ?_ ?_
                rotate_left
                · intro X ⟨x0, x1, x2⟩; go_simp; try with_reducible rfl
                simp only [Act.put, List.setIfInBounds_toArray, List.set_cons_zero, List.set_cons_succ, Array.toArray_toList]
                refine wpAnyH_ready (rs := [17]) (by kernel_rfl) (by simp) (AllReadyH.cons (o := ⟨none, .store 155 (.tmp 5) (.tmp 88), 0, "oil.go:174", #[⟨14, .data⟩, ⟨16, .chain⟩, ⟨0, .phase⟩, ⟨1, .phase⟩, ⟨2, .phase⟩, ⟨3, .phase⟩, ⟨4, .phase⟩, ⟨5, .phase⟩, ⟨6, .phase⟩, ⟨7, .phase⟩, ⟨8, .phase⟩, ⟨9, .phase⟩, ⟨10, .phase⟩, ⟨11, .phase⟩, ⟨12, .phase⟩, ⟨13, .phase⟩, ⟨14, .phase⟩, ⟨15, .phase⟩, ⟨16, .phase⟩], none⟩) rfl (fun K hK => ?_) AllReadyH.nil)
                go_simp
                refine hK.out _ _ ((keepSS ⟨j0, j2, j3⟩ nwx nnx nnx)) (fun hS5 => ?_)
                clear hS4 hK K
                refine wpAnyH_done (by kernel_rfl) ?_ _
                clear hS5
                have hq13 : ((w12.setCell ⟨Bx, 0, none⟩ (.int .i64 ((i : Int) + 1))).setCell ⟨Bx, 1, none⟩ (.int .i64 no)).heap[Bx]? = some (.cells #[.int .i64 ((i : Int) + 1), .int .i64 no] 155 (0, 0)) := by simp [World.setCell, Array.getElem?_modify, HN12.out]
                have HQ13 := Lib.hid hq13
                have HK13 := Lib.hid ((HK12.out.set wbx 0 (.int .i64 ((i : Int) + 1))).set wbx 1 (.int .i64 no))
                have HO13 := Lib.hid (ownsRow_setCell_below (ownsRow_setCell_below HOWN12.out (a := ⟨Bx, 0, none⟩) (Nat.lt_succ_self _) (.int .i64 ((i : Int) + 1))) (a := ⟨Bx, 1, none⟩) (Nat.lt_succ_self _) (.int .i64 no))
                have HM13 := Lib.hid ((HM12.out.of_block (w' := w12.setCell ⟨Bx, 0, none⟩ (.int .i64 ((i : Int) + 1))) (Below.heap_setCell _ _ _ _ (Ne.symm nxk))).of_block (w' := (w12.setCell ⟨Bx, 0, none⟩ (.int .i64 ((i : Int) + 1))).setCell ⟨Bx, 1, none⟩ (.int .i64 no)) (Below.heap_setCell _ _ _ _ (Ne.symm nxk)))
                clear hq13 j0 j2 j3 x0 x1 z0 z1 hwL d0 d1 d2 d3 e1
                go_wp2_with fail
                go_roundw
                case rel => exact ⟨i + 1, r, no, xs ++ [nn], by have := HIR.out; omega, HQ13.out, hnob, by simp [HXL.out], HO13.out, by rw [HD.out], by rw [HD.out]; exact HDS.out, HBST.out, HK13.out, _, HM13.out, HMM10.out⟩
                case measure =>
                  have hq0 : ((w12.setCell ⟨Bx, 0, none⟩ (.int .i64 ((i : Int) + 1))).setCell ⟨Bx, 1, none⟩ (.int .i64 no)).cell? ⟨Bx, 0, none⟩ = some (.int .i64 ((i : Int) + 1)) := by simp [World.cell?, HQ13.out]
                  rw [hq0, HU0.out]
                  show s.ns.length - ((i : Int) + 1).toNat < s.ns.length - (i : Int).toNat
                  omega
end Go.Proofs.Ytefhdcecbmgljaa

/-
  LampDips: the walk.
-/
import Derived.Test.YtefhdcecbmgljaaDipped
import Derived.Test.YtefhdcecbmgljaaRefG
import Derived.Test.YtefhdcecbmgljaaRefH
set_option linter.all false
namespace Go.Proofs.Ytefhdcecbmgljaa
open Go.RowKit Go.WalkArith


def DMore (dips : List Dp) (d : Dp) (w1 : World) (x : Value) (W : World) : Prop := ∃ Ax cx, x = .slice Ax (dips ++ [d]).length cx ∧ DpsAt W Ax (dips ++ [d]) ∧ Below w1.heap.size w1 W
theorem DMore.intro {dips : List Dp} {d : Dp} {w1 W : World} {g cap base : Nat} (h : W.ownsRow base 85 3 (.slice (some ⟨g, 0, none⟩) (dips.length + 1) cap) (dips.length + 1) (flatD (dips ++ [d]))) (hb : Below w1.heap.size w1 W) : DMore dips d w1 (.slice (some ⟨g, 0, none⟩) (dips.length + 1) cap) W := by
  obtain ⟨Ax, cx, he, hd, _⟩ := DpsAt.of_own85 h
  exact ⟨Ax, cx, he, hd, hb⟩

def DLRel (n : Nat) (w0 : World) (i : Value) (wr : World) : Prop := ∃ k : Nat, k ≤ n ∧ i = .int .i64 k ∧ Below w0.heap.size w0 wr
set_option maxRecDepth 100000 in
set_option maxHeartbeats 16000000 in
theorem dips_walk (s : St) (A : Option Addr) (cp : Nat) (Ac Ak : Option Addr) (cc ck : Nat) (c k : List Int) (Aw : Option Addr) (cw : Nat) (ws : List Int) (many bits : Int) (d : Dp) (w : World) (hA : NtsAt w A s.ns) (hc : IntsAt w (.slice Ac c.length cc) c) (hk : IntsAt w (.slice Ak k.length ck) k) (hw : WordsAt w (.slice Aw ws.length cw) ws) (hwn : ws.length ≤ 9223372036854775807) (um0 : 0 ≤ many) (um1 : many ≤ 255) (ub0 : 0 ≤ bits) (ub1 : bits ≤ 255) (n1 : NilOk Ac cc) (n2 : NilOk Ak ck) :
    Calls Try.prog 9 #[.agg #[.int .i64 s.cap, .int .i64 s.can, .int .i64 s.sl, .int .i64 s.sh, .slice A s.ns.length cp], .agg #[.slice Ac c.length cc, .slice Ak k.length ck], .slice Aw ws.length cw, .int .u8 many, .int .u8 bits, .agg #[.int .i64 d.n, .int .i64 d.lo, .int .i64 d.hi]] w fun e w' => e = .returned (.bool true) ∧ Below w.heap.size w w' := by
  have HA := Lib.hid hA
  have HC := Lib.hid hc
  have HK := Lib.hid hk
  have HW := Lib.hid hw
  clear hA hc hk hw
  have hB0 : Below w.heap.size w (((w.alloc (.cells #[.int .i64 s.cap, .int .i64 s.can, .int .i64 s.sl, .int .i64 s.sh, .slice A s.ns.length cp] 26)).alloc (.cells #[.slice Ac c.length cc, .slice Ak k.length ck] 29)).alloc (.cells #[.int .i64 d.n, .int .i64 d.lo, .int .i64 d.hi] 85)) := (((Below.refl _ _).alloc (Nat.le_refl _) _).alloc (by simp) _).alloc (by simp; omega) _
  have hn0 : (((w.alloc (.cells #[.int .i64 s.cap, .int .i64 s.can, .int .i64 s.sl, .int .i64 s.sh, .slice A s.ns.length cp] 26)).alloc (.cells #[.slice Ac c.length cc, .slice Ak k.length ck] 29)).alloc (.cells #[.int .i64 d.n, .int .i64 d.lo, .int .i64 d.hi] 85)).heap[w.heap.size]? = some (.cells #[.int .i64 s.cap, .int .i64 s.can, .int .i64 s.sl, .int .i64 s.sh, .slice A s.ns.length cp] 26 (0, 0)) := (Below.heap_alloc _ _ _ (by simp <;> omega)).trans ((Below.heap_alloc _ _ _ (by simp <;> omega)).trans (heap_new_at _ _ _ rfl))
  have hn1 : (((w.alloc (.cells #[.int .i64 s.cap, .int .i64 s.can, .int .i64 s.sl, .int .i64 s.sh, .slice A s.ns.length cp] 26)).alloc (.cells #[.slice Ac c.length cc, .slice Ak k.length ck] 29)).alloc (.cells #[.int .i64 d.n, .int .i64 d.lo, .int .i64 d.hi] 85)).heap[w.heap.size + 1]? = some (.cells #[.slice Ac c.length cc, .slice Ak k.length ck] 29 (0, 0)) := (Below.heap_alloc _ _ _ (by simp <;> omega)).trans (heap_new_at _ _ _ (by simp))
  have hn2 : (((w.alloc (.cells #[.int .i64 s.cap, .int .i64 s.can, .int .i64 s.sl, .int .i64 s.sh, .slice A s.ns.length cp] 26)).alloc (.cells #[.slice Ac c.length cc, .slice Ak k.length ck] 29)).alloc (.cells #[.int .i64 d.n, .int .i64 d.lo, .int .i64 d.hi] 85)).heap[w.heap.size + 1 + 1]? = some (.cells #[.int .i64 d.n, .int .i64 d.lo, .int .i64 d.hi] 85 (0, 0)) := heap_new_at _ _ _ (by simp)
  have HB1 := Lib.hid hB0
  have NBs1 := Lib.hid hn0
  have NBp1 := Lib.hid hn1
  have NBd1 := Lib.hid hn2
  clear hB0 hn0 hn1 hn2
  go_enter Try.func9, Try.ntmps9
  go_wp2_with fail
  generalize (((w.alloc (.cells #[.int .i64 s.cap, .int .i64 s.can, .int .i64 s.sl, .int .i64 s.sh, .slice A s.ns.length cp] 26)).alloc (.cells #[.slice Ac c.length cc, .slice Ak k.length ck] 29)).alloc (.cells #[.int .i64 d.n, .int .i64 d.lo, .int .i64 d.hi] 85)) = w1 at HB1 NBs1 NBp1 NBd1 ⊢
  obtain ⟨Bd, hBd⟩ : ∃ Bd, w.heap.size + 1 + 1 = Bd := ⟨_, rfl⟩
  obtain ⟨Bp, hBp⟩ : ∃ Bp, w.heap.size + 1 = Bp := ⟨_, rfl⟩
  obtain ⟨Bs, hBs⟩ : ∃ Bs, w.heap.size = Bs := ⟨_, rfl⟩
  have oBd : w.heap.size ≤ Bd := by omega
  have oBsBd : Bs < Bd := by omega
  have oBpBd : Bp < Bd := by omega
  have oBp : w.heap.size ≤ Bp := by omega
  have oBsBp : Bs < Bp := by omega
  have oBs : w.heap.size ≤ Bs := by omega
  rw [hBd] at NBd1 ⊢
  rw [hBp] at NBp1 ⊢
  rw [hBs] at NBs1 ⊢
  clear hBs hBp hBd
  obtain ⟨cBs0_1, cBs1_1, cBs2_1, cBs3_1, cBs4_1⟩ := cells5 NBs1.out
  obtain ⟨cBp0_1, cBp1_1⟩ := cells2 NBp1.out
  obtain ⟨cBd0_1, cBd1_1, cBd2_1⟩ := cells3 NBd1.out
  have hrd := Lib.hid (ready_any s A cp Ac Ak cc ck c k w1 (HA.out.keep HB1.out (Nat.le_refl _)) (HC.out.keep HB1.out (Nat.le_refl _)) (HK.out.keep HB1.out (Nat.le_refl _)))
  cases hR : readyB s c k with
  | false =>
    rw [hR] at hrd
    clear hR
    go_wp2_with fail
    refine (hrd.out).mono ?_
    rintro e w2 ⟨rfl, hb⟩
    have HB2 := Lib.hid ((HB1.out).trans (hb.mono (HB1.out).size))
    have NBs2 := Lib.hid ((hb.block Bs (Array.getElem?_eq_some_iff.1 NBs1.out).1).trans NBs1.out)
    have NBp2 := Lib.hid ((hb.block Bp (Array.getElem?_eq_some_iff.1 NBp1.out).1).trans NBp1.out)
    have NBd2 := Lib.hid ((hb.block Bd (Array.getElem?_eq_some_iff.1 NBd1.out).1).trans NBd1.out)
    clear HB1 NBs1 NBp1 NBd1 cBs0_1 cBs1_1 cBs2_1 cBs3_1 cBs4_1 cBp0_1 cBp1_1 cBd0_1 cBd1_1 cBd2_1  hb hrd
    obtain ⟨cBs0_2, cBs1_2, cBs2_2, cBs3_2, cBs4_2⟩ := cells5 NBs2.out
    obtain ⟨cBp0_2, cBp1_2⟩ := cells2 NBp2.out
    obtain ⟨cBd0_2, cBd1_2, cBd2_2⟩ := cells3 NBd2.out
    go_wp2_with fail
    refine (awake_any _).mono ?_
    rintro e w3 ⟨rfl, hb⟩
    have HB3 := Lib.hid ((HB2.out).trans (hb.mono (HB2.out).size))
    have NBs3 := Lib.hid ((hb.block Bs (Array.getElem?_eq_some_iff.1 NBs2.out).1).trans NBs2.out)
    have NBp3 := Lib.hid ((hb.block Bp (Array.getElem?_eq_some_iff.1 NBp2.out).1).trans NBp2.out)
    have NBd3 := Lib.hid ((hb.block Bd (Array.getElem?_eq_some_iff.1 NBd2.out).1).trans NBd2.out)
    clear HB2 NBs2 NBp2 NBd2 cBs0_2 cBs1_2 cBs2_2 cBs3_2 cBs4_2 cBp0_2 cBp1_2 cBd0_2 cBd1_2 cBd2_2  hb 
    obtain ⟨cBs0_3, cBs1_3, cBs2_3, cBs3_3, cBs4_3⟩ := cells5 NBs3.out
    obtain ⟨cBp0_3, cBp1_3⟩ := cells2 NBp3.out
    obtain ⟨cBd0_3, cBd1_3, cBd2_3⟩ := cells3 NBd3.out
    go_wp2_with fail
    go_ret
    exact ⟨rfl, HB3.out⟩
  | true =>
    rw [hR] at hrd
    have h0 := readyB_true hR
    clear hR
    go_wp2_with fail
    refine (hrd.out).mono ?_
    rintro e w2 ⟨rfl, hb⟩
    have HB2 := Lib.hid ((HB1.out).trans (hb.mono (HB1.out).size))
    have NBs2 := Lib.hid ((hb.block Bs (Array.getElem?_eq_some_iff.1 NBs1.out).1).trans NBs1.out)
    have NBp2 := Lib.hid ((hb.block Bp (Array.getElem?_eq_some_iff.1 NBp1.out).1).trans NBp1.out)
    have NBd2 := Lib.hid ((hb.block Bd (Array.getElem?_eq_some_iff.1 NBd1.out).1).trans NBd1.out)
    clear HB1 NBs1 NBp1 NBd1 cBs0_1 cBs1_1 cBs2_1 cBs3_1 cBs4_1 cBp0_1 cBp1_1 cBd0_1 cBd1_1 cBd2_1  hb hrd
    obtain ⟨cBs0_2, cBs1_2, cBs2_2, cBs3_2, cBs4_2⟩ := cells5 NBs2.out
    obtain ⟨cBp0_2, cBp1_2⟩ := cells2 NBp2.out
    obtain ⟨cBd0_2, cBd1_2, cBd2_2⟩ := cells3 NBd2.out
    obtain ⟨l6, lc, lk⟩ := plan_lens s c k h0
    obtain ⟨hOK, -, -, hPL⟩ := planL_zero.1 h0
    have hpos := hOK.pos
    have H0 := Lib.hid h0
    have HOK := Lib.hid hOK
    have HPL := Lib.hid hPL
    have c9 : c.length ≤ 1000000 := by omega
    have k9 : k.length ≤ 1000000 := by omega
    have n9 : s.ns.length ≤ 1000000 := by omega
    have HLC := Lib.hid lc
    have HLK := Lib.hid lk
    clear h0 hOK hPL lc lk
    go_wp2_with fail
    go_region_held3 (fun X => X.cell? ⟨Bs, 0, none⟩ = some (.int .i64 s.cap) ∧ X.cell? ⟨Bs, 1, none⟩ = some (.int .i64 s.can) ∧ X.cell? ⟨Bs, 2, none⟩ = some (.int .i64 s.sl) ∧ X.cell? ⟨Bs, 3, none⟩ = some (.int .i64 s.sh) ∧ X.cell? ⟨Bs, 4, none⟩ = some (.slice A s.ns.length cp) ∧ X.cell? ⟨Bp, 0, none⟩ = some (.slice Ac c.length cc) ∧ X.cell? ⟨Bp, 1, none⟩ = some (.slice Ak k.length ck))
      (first | go_keep | exact ⟨(cell_later hb0 cBs0_2), (cell_later hb0 cBs1_2), (cell_later hb0 cBs2_2), (cell_later hb0 cBs3_2), (cell_later hb0 cBs4_2), (cell_later hb0 cBp0_2), (cell_later hb0 cBp1_2)⟩ | exact ⟨(cell_later hb1 (cell_later hb0 cBs0_2)), (cell_later hb1 (cell_later hb0 cBs1_2)), (cell_later hb1 (cell_later hb0 cBs2_2)), (cell_later hb1 (cell_later hb0 cBs3_2)), (cell_later hb1 (cell_later hb0 cBs4_2)), (cell_later hb1 (cell_later hb0 cBp0_2)), (cell_later hb1 (cell_later hb0 cBp1_2))⟩)
      (first | (go_at_call 43; refine (Picked_any s A cp (.slice Aw ws.length cw) ws w2.drew HOK.out (HA.out.keep HB2.out.drew (Nat.le_refl _)) (HW.out.keep HB2.out.drew (Nat.le_refl _)) hwn).mono ?_; rintro e w2_0 ⟨t, Ab, cb, bs, rfl, htb, hbs, hbn, hb0⟩; have hB0 := HB2.out.drew.trans (hb0.mono HB2.out.drew.size)) | (go_at_call 44; refine (dipped_by s A cp Ac Ak cc ck c k t Ab cb bs (.slice Aw ws.length cw) ws many bits w2_0 H0.out htb (HA.out.keep hB0 (Nat.le_refl _)) (HC.out.keep hB0 (Nat.le_refl _)) (HK.out.keep hB0 (Nat.le_refl _)) hbs (HW.out.keep hB0 (Nat.le_refl _)) hwn (And.intro um0 um1) (And.intro ub0 ub1)).mono ?_; rintro e w3 ⟨Ad, cd, dips, rfl, hda, hdn, hd4, hdo, hb1⟩; have hB1 := hB0.trans (hb1.mono hB0.size)))
    have hbR : Below w2.drew.heap.size w2.drew w3 := ((hb0).trans (hb1.mono (hb0).size))
    have HB3 := Lib.hid ((HB2.out.drew).trans (hbR.mono (HB2.out.drew).size))
    have NBs3 := Lib.hid ((hbR.block Bs (Array.getElem?_eq_some_iff.1 NBs2.out).1).trans NBs2.out)
    have NBp3 := Lib.hid ((hbR.block Bp (Array.getElem?_eq_some_iff.1 NBp2.out).1).trans NBp2.out)
    have NBd3 := Lib.hid ((hbR.block Bd (Array.getElem?_eq_some_iff.1 NBd2.out).1).trans NBd2.out)
    have FD3 := Lib.hid hda
    clear HB2 NBs2 NBp2 NBd2 cBs0_2 cBs1_2 cBs2_2 cBs3_2 cBs4_2 cBp0_2 cBp1_2 cBd0_2 cBd1_2 cBd2_2 hda hbR hb0 hB0 hb1 hB1 hbs hbn
    obtain ⟨cBs0_3, cBs1_3, cBs2_3, cBs3_3, cBs4_3⟩ := cells5 NBs3.out
    obtain ⟨cBp0_3, cBp1_3⟩ := cells2 NBp3.out
    obtain ⟨cBd0_3, cBd1_3, cBd2_3⟩ := cells3 NBd3.out
    have HTB := Lib.hid htb
    have HDO := Lib.hid hdo
    have HDN := Lib.hid hdn
    clear htb hdo hdn
    go_upto_region 4 with fail
    go_cut [14] from 38 to 43 (DMore dips d w3)
    case first =>
      have hws0 := HB3.out.size
      obtain ⟨v0, hv0⟩ : ∃ v, w3.drew = v := ⟨_, rfl⟩
      have HX_v0 := Lib.hid (show Below w3.heap.size w3 v0 from hv0 ▸ (Below.refl _ w3).drew)
      obtain ⟨i0, hi0', hz0', hz1', hz2'⟩ := info_parts Try.info85
      have hi0 := Lib.hid hi0'
      have hz0 := Lib.hid hz0'
      have hz1 := Lib.hid hz1'
      have hz2 := Lib.hid hz2'
      clear hi0' hz0' hz1' hz2'
      have HS := Lib.hid (show ∀ X, Below w3.heap.size w3 X → X.cell? ⟨Bd, 0, none⟩ = some (.int .i64 d.n) ∧ X.cell? ⟨Bd, 1, none⟩ = some (.int .i64 d.lo) ∧ X.cell? ⟨Bd, 2, none⟩ = some (.int .i64 d.hi) from fun X hX => cells3 ((hX.block Bd (Array.getElem?_eq_some_iff.1 NBd3.out).1).trans NBd3.out))
      refine wp_region_held_drew (S := fun X => X.cell? ⟨Bd, 0, none⟩ = some (.int .i64 d.n) ∧ X.cell? ⟨Bd, 1, none⟩ = some (.int .i64 d.lo) ∧ X.cell? ⟨Bd, 2, none⟩ = some (.int .i64 d.hi)) (by kernel_rfl) ((HS.out _ ((Below.refl _ w3).drew))) (fun hS0 => ?_)
      refine tkH 1 ⟨some 39, .move (.tmp 13), 55, "outright.go:181", #[], none⟩ (v := ?_) hS0 ?_ ?_
      rotate_left
      · intro X ⟨x0, x1, x2⟩; go_simp; try with_reducible rfl
      simp only [Act.put, List.setIfInBounds_toArray, List.set_cons_zero, List.set_cons_succ, Array.toArray_toList]
      refine tkH 3 ⟨some 41, .load 85 (.tmp 11), 85, "outright.go:181", #[], none⟩ (v := ?_) hS0 ?_ ?_
      rotate_left
      · intro X ⟨x0, x1, x2⟩; go_simp; try with_reducible rfl
      simp only [Act.put, List.setIfInBounds_toArray, List.set_cons_zero, List.set_cons_succ, Array.toArray_toList]
      refine wpAnyH_ready (rs := [0, 4]) (by kernel_rfl) (by simp) (AllReadyH.cons (o := ⟨some 38, .buildSlice 55 0 #[], 55, "outright.go:181", #[], none⟩) rfl (fun K hK => ?_) (AllReadyH.cons (o := ⟨some 42, .buildSlice 55 1 #[(0, .tmp 41)], 55, "outright.go:181", #[⟨3, .data⟩], none⟩) rfl (fun K hK => ?_) AllReadyH.nil))
      · skip
        go_simp
        have hb : Below v0.heap.size v0 (v0.alloc (.cells #[] 85)) := (Below.refl _ _).alloc (Nat.le_refl _) _
        have hO : (v0.alloc (.cells #[] 85)).ownsRow w3.heap.size 85 3 (.slice (some ⟨v0.heap.size, 0, none⟩) 0 0) 0 [] := (World.ownsRow_made (base := v0.heap.size) (e := 85) (size := 3) v0 #[] 0 (Nat.le_refl _) (by decide) rfl).lower HX_v0.out.size
        obtain ⟨Be, hBe⟩ : ∃ B, v0.heap.size = B := ⟨_, rfl⟩
        have lBe : w3.heap.size ≤ Be := by have := HX_v0.out.size; omega
        rw [hBe] at hO ⊢
        clear hBe
        generalize v0.alloc (.cells #[] 85) = v1 at hb hO ⊢
        have HX_v1 := Lib.hid (HX_v0.out.trans (hb.mono HX_v0.out.size))
        have OE_v1 := Lib.hid hO
        clear hO hb
        refine hK.out _ _ ((HS.out _ HX_v1.out)) (fun hS1 => ?_)
        clear hS0 hK K
        refine wpAnyH_ready (rs := [2, 4]) (by kernel_rfl) (by simp) (AllReadyH.cons (o := ⟨some 40, .call ⟨.builtin .append, #[.tmp 38, .tmp 39], #[55, 55]⟩, 55, "outright.go:181", #[⟨0, .data⟩, ⟨1, .data⟩], none⟩) rfl (fun K hK => ?_) (AllReadyH.cons (o := ⟨some 42, .buildSlice 55 1 #[(0, .tmp 41)], 55, "outright.go:181", #[⟨3, .data⟩], none⟩) rfl (fun K hK => ?_) AllReadyH.nil))
        · skip
          refine step_app_dips (by rfl) _ _ (by rfl) w3.heap.size _ (by rfl) OE_v1.out Ad cd dips (by rfl) ((FD3.out).keep HX_v1.out (Nat.le_refl _)) HDN.out (by omega) (by have := HX_v1.out.size; omega) ?_
          intro vv v2 hO hg hsz
          have HX_v2 := Lib.hid (HX_v1.out.trans (below_of_grown hg OE_v1.out (Nat.le_refl _) (by have := HX_v1.out.size; omega)))
          have OV_v2 := Lib.hid hO
          clear hO hg hsz
          refine hK.out _ _ ((HS.out _ HX_v2.out)) (fun hS2 => ?_)
          clear hS1 hK K
          simp only [Act.put, List.setIfInBounds_toArray, List.set_cons_zero, List.set_cons_succ, Array.toArray_toList]
          refine wpAnyH_ready (rs := [4]) (by kernel_rfl) (by simp) (AllReadyH.cons (o := ⟨some 42, .buildSlice 55 1 #[(0, .tmp 41)], 55, "outright.go:181", #[⟨3, .data⟩], none⟩) rfl (fun K hK => ?_) AllReadyH.nil)
          go_simp
          have hb : Below v2.heap.size v2 (v2.alloc (.cells #[.int .i64 d.n, .int .i64 d.lo, .int .i64 d.hi] 85)) := (Below.refl _ _).alloc (Nat.le_refl _) _
          have hE := Go.heap_alloc_new v2 (.cells #[.int .i64 d.n, .int .i64 d.lo, .int .i64 d.hi] 85)
          obtain ⟨Bq, hBq⟩ : ∃ B, v2.heap.size = B := ⟨_, rfl⟩
          have lBq : w3.heap.size ≤ Bq := by have := HX_v2.out.size; omega
          rw [hBq] at hE ⊢
          have HBQ := Lib.hid hBq
          clear hBq
          generalize v2.alloc (.cells #[.int .i64 d.n, .int .i64 d.lo, .int .i64 d.hi] 85) = v3 at hb hE ⊢
          have OV_v3 := Lib.hid (OV_v2.out.kept (Go_grown_of_below hb) (own_none _))
          have HX_v3 := Lib.hid (HX_v2.out.trans (hb.mono HX_v2.out.size))
          have EQ_v3 := Lib.hid hE
          clear hE hb
          refine hK.out _ _ ((HS.out _ HX_v3.out)) (fun hS3 => ?_)
          clear hS2 hK K
          refine wpAnyH_ready (rs := [5]) (by kernel_rfl) (by simp) (AllReadyH.cons (o := ⟨some 43, .call ⟨.builtin .append, #[.tmp 40, .tmp 42], #[55, 55]⟩, 55, "outright.go:181", #[⟨2, .data⟩, ⟨4, .data⟩, ⟨2, .chain⟩], none⟩) rfl (fun K hK => ?_) AllReadyH.nil)
          refine step_append_lies _ (by rfl) _ _ _ (by rfl) w3.heap.size 85 i0 _ 3 24 Try.underlying55 hi0.out hz0.out hz1.out hz2.out rfl (by omega) _ dips.length _ (by rfl) OV_v3.out ⟨Bq, 0, none⟩ 1 1 [.int .i64 d.n, .int .i64 d.lo, .int .i64 d.hi] (by rfl) (by rfl) (World.news_of_block (cs := #[.int .i64 d.n, .int .i64 d.lo, .int .i64 d.hi]) (t := 85) (fr := (0, 0)) EQ_v3.out) (by simp [Value.oneCell']) (by omega) (by unfold maxLen; omega) (by omega) (by have := HX_v3.out.size; omega) v3.heap.size rfl ?_
          intro gg cap' w7 hown7 hgrow hat hlt7
          have HX7 := Lib.hid (HX_v3.out.trans (below_of_grown hgrow OV_v3.out (Nat.le_refl _) (by have := HX_v3.out.size; omega)))
          have hown8 : w7.ownsRow w3.heap.size 85 3 (.slice (some ⟨gg, 0, none⟩) (dips.length + 1) cap') (dips.length + 1) (flatD (dips ++ [d])) := by rw [flatD_snoc]; exact hown7
          have HO8 := Lib.hid hown8
          clear hown7 hgrow hat hlt7 hown8
          refine hK.out _ _ ((HS.out _ HX7.out)) (fun hS4 => ?_)
          clear hS3 hK K
          simp only [Act.put, List.setIfInBounds_toArray, List.set_cons_zero, List.set_cons_succ, Array.toArray_toList]
          refine tkH 6 ⟨some 14, .assign (.tmp 43), 55, "outright.go:181", #[⟨5, .data⟩, ⟨5, .chain⟩, ⟨0, .phase⟩, ⟨1, .phase⟩, ⟨2, .phase⟩, ⟨3, .phase⟩, ⟨4, .phase⟩, ⟨5, .phase⟩], none⟩ (v := ?_) hS4 ?_ ?_
          rotate_left
          · intro X ⟨x0, x1, x2⟩; go_simp; try with_reducible rfl
          simp only [Act.put, List.setIfInBounds_toArray, List.set_cons_zero, List.set_cons_succ, Array.toArray_toList]
          refine wpAnyH_done (by kernel_rfl) ?_ _
          clear hS4
          go_wp2_with fail
          go_meet
          case rel => exact DMore.intro HO8.out HX7.out
        · skip
          go_simp
          have hb : Below v1.heap.size v1 (v1.alloc (.cells #[.int .i64 d.n, .int .i64 d.lo, .int .i64 d.hi] 85)) := (Below.refl _ _).alloc (Nat.le_refl _) _
          have hE := Go.heap_alloc_new v1 (.cells #[.int .i64 d.n, .int .i64 d.lo, .int .i64 d.hi] 85)
          obtain ⟨Bq, hBq⟩ : ∃ B, v1.heap.size = B := ⟨_, rfl⟩
          have lBq : w3.heap.size ≤ Bq := by have := HX_v1.out.size; omega
          rw [hBq] at hE ⊢
          have HBQ := Lib.hid hBq
          clear hBq
          generalize v1.alloc (.cells #[.int .i64 d.n, .int .i64 d.lo, .int .i64 d.hi] 85) = v4 at hb hE ⊢
          have hne : Be ≠ Bq := by have := (OE_v1.out.lt Be rfl).2; have := HBQ.out; omega
          have OE_v4 := Lib.hid (OE_v1.out.kept (Go_grown_of_below hb) (own_none _))
          have HX_v4 := Lib.hid (HX_v1.out.trans (hb.mono HX_v1.out.size))
          have EQ_v4 := Lib.hid hE
          clear hE hb
          refine hK.out _ _ ((HS.out _ HX_v4.out)) (fun hS2 => ?_)
          clear hS1 hK K
          refine wpAnyH_ready (rs := [2]) (by kernel_rfl) (by simp) (AllReadyH.cons (o := ⟨some 40, .call ⟨.builtin .append, #[.tmp 38, .tmp 39], #[55, 55]⟩, 55, "outright.go:181", #[⟨0, .data⟩, ⟨1, .data⟩], none⟩) rfl (fun K hK => ?_) AllReadyH.nil)
          refine step_app_dips (by rfl) _ _ (by rfl) w3.heap.size _ (by rfl) OE_v4.out Ad cd dips (by rfl) ((FD3.out).keep HX_v4.out (Nat.le_refl _)) HDN.out (by omega) (by have := HX_v4.out.size; omega) ?_
          intro vv v5 hO hg hsz
          have EQ_v5 := Lib.hid ((hg.block Bq (Array.getElem?_eq_some_iff.1 EQ_v4.out).1 (fun e => by have h : Bq = Be := (by simpa [Value.ownBlock] using e); omega)).trans EQ_v4.out)
          have HX_v5 := Lib.hid (HX_v4.out.trans (below_of_grown hg OE_v4.out (Nat.le_refl _) (by have := HX_v4.out.size; omega)))
          have OV_v5 := Lib.hid hO
          clear hO hg hsz
          refine hK.out _ _ ((HS.out _ HX_v5.out)) (fun hS3 => ?_)
          clear hS2 hK K
          simp only [Act.put, List.setIfInBounds_toArray, List.set_cons_zero, List.set_cons_succ, Array.toArray_toList]
          refine wpAnyH_ready (rs := [5]) (by kernel_rfl) (by simp) (AllReadyH.cons (o := ⟨some 43, .call ⟨.builtin .append, #[.tmp 40, .tmp 42], #[55, 55]⟩, 55, "outright.go:181", #[⟨2, .data⟩, ⟨4, .data⟩, ⟨2, .chain⟩], none⟩) rfl (fun K hK => ?_) AllReadyH.nil)
          refine step_append_lies _ (by rfl) _ _ _ (by rfl) w3.heap.size 85 i0 _ 3 24 Try.underlying55 hi0.out hz0.out hz1.out hz2.out rfl (by omega) _ dips.length _ (by rfl) OV_v5.out ⟨Bq, 0, none⟩ 1 1 [.int .i64 d.n, .int .i64 d.lo, .int .i64 d.hi] (by rfl) (by rfl) (World.news_of_block (cs := #[.int .i64 d.n, .int .i64 d.lo, .int .i64 d.hi]) (t := 85) (fr := (0, 0)) EQ_v5.out) (by simp [Value.oneCell']) (by omega) (by unfold maxLen; omega) (by omega) (by have := HX_v5.out.size; omega) v5.heap.size rfl ?_
          intro gg cap' w7 hown7 hgrow hat hlt7
          have HX7 := Lib.hid (HX_v5.out.trans (below_of_grown hgrow OV_v5.out (Nat.le_refl _) (by have := HX_v5.out.size; omega)))
          have hown8 : w7.ownsRow w3.heap.size 85 3 (.slice (some ⟨gg, 0, none⟩) (dips.length + 1) cap') (dips.length + 1) (flatD (dips ++ [d])) := by rw [flatD_snoc]; exact hown7
          have HO8 := Lib.hid hown8
          clear hown7 hgrow hat hlt7 hown8
          refine hK.out _ _ ((HS.out _ HX7.out)) (fun hS4 => ?_)
          clear hS3 hK K
          simp only [Act.put, List.setIfInBounds_toArray, List.set_cons_zero, List.set_cons_succ, Array.toArray_toList]
          refine tkH 6 ⟨some 14, .assign (.tmp 43), 55, "outright.go:181", #[⟨5, .data⟩, ⟨5, .chain⟩, ⟨0, .phase⟩, ⟨1, .phase⟩, ⟨2, .phase⟩, ⟨3, .phase⟩, ⟨4, .phase⟩, ⟨5, .phase⟩], none⟩ (v := ?_) hS4 ?_ ?_
          rotate_left
          · intro X ⟨x0, x1, x2⟩; go_simp; try with_reducible rfl
          simp only [Act.put, List.setIfInBounds_toArray, List.set_cons_zero, List.set_cons_succ, Array.toArray_toList]
          refine wpAnyH_done (by kernel_rfl) ?_ _
          clear hS4
          go_wp2_with fail
          go_meet
          case rel => exact DMore.intro HO8.out HX7.out
      · skip
        go_simp
        have hb : Below v0.heap.size v0 (v0.alloc (.cells #[.int .i64 d.n, .int .i64 d.lo, .int .i64 d.hi] 85)) := (Below.refl _ _).alloc (Nat.le_refl _) _
        have hE := Go.heap_alloc_new v0 (.cells #[.int .i64 d.n, .int .i64 d.lo, .int .i64 d.hi] 85)
        obtain ⟨Bq, hBq⟩ : ∃ B, v0.heap.size = B := ⟨_, rfl⟩
        have lBq : w3.heap.size ≤ Bq := by have := HX_v0.out.size; omega
        rw [hBq] at hE ⊢
        have HBQ := Lib.hid hBq
        clear hBq
        generalize v0.alloc (.cells #[.int .i64 d.n, .int .i64 d.lo, .int .i64 d.hi] 85) = v6 at hb hE ⊢
        have HX_v6 := Lib.hid (HX_v0.out.trans (hb.mono HX_v0.out.size))
        have EQ_v6 := Lib.hid hE
        clear hE hb
        refine hK.out _ _ ((HS.out _ HX_v6.out)) (fun hS1 => ?_)
        clear hS0 hK K
        refine wpAnyH_ready (rs := [0]) (by kernel_rfl) (by simp) (AllReadyH.cons (o := ⟨some 38, .buildSlice 55 0 #[], 55, "outright.go:181", #[], none⟩) rfl (fun K hK => ?_) AllReadyH.nil)
        go_simp
        have hb : Below v6.heap.size v6 (v6.alloc (.cells #[] 85)) := (Below.refl _ _).alloc (Nat.le_refl _) _
        have hO : (v6.alloc (.cells #[] 85)).ownsRow w3.heap.size 85 3 (.slice (some ⟨v6.heap.size, 0, none⟩) 0 0) 0 [] := (World.ownsRow_made (base := v6.heap.size) (e := 85) (size := 3) v6 #[] 0 (Nat.le_refl _) (by decide) rfl).lower HX_v6.out.size
        obtain ⟨Be, hBe⟩ : ∃ B, v6.heap.size = B := ⟨_, rfl⟩
        have lBe : w3.heap.size ≤ Be := by have := HX_v6.out.size; omega
        rw [hBe] at hO ⊢
        have hne : Be ≠ Bq := by have := (Array.getElem?_eq_some_iff.1 EQ_v6.out).1; omega
        clear hBe
        generalize v6.alloc (.cells #[] 85) = v7 at hb hO ⊢
        have EQ_v7 := Lib.hid ((hb.block Bq (Array.getElem?_eq_some_iff.1 EQ_v6.out).1).trans EQ_v6.out)
        have HX_v7 := Lib.hid (HX_v6.out.trans (hb.mono HX_v6.out.size))
        have OE_v7 := Lib.hid hO
        clear hO hb
        refine hK.out _ _ ((HS.out _ HX_v7.out)) (fun hS2 => ?_)
        clear hS1 hK K
        refine wpAnyH_ready (rs := [2]) (by kernel_rfl) (by simp) (AllReadyH.cons (o := ⟨some 40, .call ⟨.builtin .append, #[.tmp 38, .tmp 39], #[55, 55]⟩, 55, "outright.go:181", #[⟨0, .data⟩, ⟨1, .data⟩], none⟩) rfl (fun K hK => ?_) AllReadyH.nil)
        refine step_app_dips (by rfl) _ _ (by rfl) w3.heap.size _ (by rfl) OE_v7.out Ad cd dips (by rfl) ((FD3.out).keep HX_v7.out (Nat.le_refl _)) HDN.out (by omega) (by have := HX_v7.out.size; omega) ?_
        intro vv v8 hO hg hsz
        have EQ_v8 := Lib.hid ((hg.block Bq (Array.getElem?_eq_some_iff.1 EQ_v7.out).1 (fun e => by have h : Bq = Be := (by simpa [Value.ownBlock] using e); omega)).trans EQ_v7.out)
        have HX_v8 := Lib.hid (HX_v7.out.trans (below_of_grown hg OE_v7.out (Nat.le_refl _) (by have := HX_v7.out.size; omega)))
        have OV_v8 := Lib.hid hO
        clear hO hg hsz
        refine hK.out _ _ ((HS.out _ HX_v8.out)) (fun hS3 => ?_)
        clear hS2 hK K
        simp only [Act.put, List.setIfInBounds_toArray, List.set_cons_zero, List.set_cons_succ, Array.toArray_toList]
        refine wpAnyH_ready (rs := [5]) (by kernel_rfl) (by simp) (AllReadyH.cons (o := ⟨some 43, .call ⟨.builtin .append, #[.tmp 40, .tmp 42], #[55, 55]⟩, 55, "outright.go:181", #[⟨2, .data⟩, ⟨4, .data⟩, ⟨2, .chain⟩], none⟩) rfl (fun K hK => ?_) AllReadyH.nil)
        refine step_append_lies _ (by rfl) _ _ _ (by rfl) w3.heap.size 85 i0 _ 3 24 Try.underlying55 hi0.out hz0.out hz1.out hz2.out rfl (by omega) _ dips.length _ (by rfl) OV_v8.out ⟨Bq, 0, none⟩ 1 1 [.int .i64 d.n, .int .i64 d.lo, .int .i64 d.hi] (by rfl) (by rfl) (World.news_of_block (cs := #[.int .i64 d.n, .int .i64 d.lo, .int .i64 d.hi]) (t := 85) (fr := (0, 0)) EQ_v8.out) (by simp [Value.oneCell']) (by omega) (by unfold maxLen; omega) (by omega) (by have := HX_v8.out.size; omega) v8.heap.size rfl ?_
        intro gg cap' w7 hown7 hgrow hat hlt7
        have HX7 := Lib.hid (HX_v8.out.trans (below_of_grown hgrow OV_v8.out (Nat.le_refl _) (by have := HX_v8.out.size; omega)))
        have hown8 : w7.ownsRow w3.heap.size 85 3 (.slice (some ⟨gg, 0, none⟩) (dips.length + 1) cap') (dips.length + 1) (flatD (dips ++ [d])) := by rw [flatD_snoc]; exact hown7
        have HO8 := Lib.hid hown8
        clear hown7 hgrow hat hlt7 hown8
        refine hK.out _ _ ((HS.out _ HX7.out)) (fun hS4 => ?_)
        clear hS3 hK K
        simp only [Act.put, List.setIfInBounds_toArray, List.set_cons_zero, List.set_cons_succ, Array.toArray_toList]
        refine tkH 6 ⟨some 14, .assign (.tmp 43), 55, "outright.go:181", #[⟨5, .data⟩, ⟨5, .chain⟩, ⟨0, .phase⟩, ⟨1, .phase⟩, ⟨2, .phase⟩, ⟨3, .phase⟩, ⟨4, .phase⟩, ⟨5, .phase⟩], none⟩ (v := ?_) hS4 ?_ ?_
        rotate_left
        · intro X ⟨x0, x1, x2⟩; go_simp; try with_reducible rfl
        simp only [Act.put, List.setIfInBounds_toArray, List.set_cons_zero, List.set_cons_succ, Array.toArray_toList]
        refine wpAnyH_done (by kernel_rfl) ?_ _
        clear hS4
        go_wp2_with fail
        go_meet
        case rel => exact DMore.intro HO8.out HX7.out
    case rest =>
      generalize wc = w4 at hcut ⊢
      obtain ⟨Am, cm, rfl, hdm, hb⟩ := hcut
      obtain ⟨xs, hxs⟩ : ∃ xs, dips ++ [d] = xs := ⟨_, rfl⟩
      rw [hxs] at hdm ⊢
      have hxl : xs.length = dips.length + 1 := by rw [← hxs]; simp
      have hx6 : xs.length ≤ 1000000 := by omega
      have HXL := Lib.hid hxl
      have HXS := Lib.hid hxs
      clear hxl hxs
      have HB4 := Lib.hid ((HB3.out).trans (hb.mono (HB3.out).size))
      have NBs4 := Lib.hid ((hb.block Bs (Array.getElem?_eq_some_iff.1 NBs3.out).1).trans NBs3.out)
      have NBp4 := Lib.hid ((hb.block Bp (Array.getElem?_eq_some_iff.1 NBp3.out).1).trans NBp3.out)
      have NBd4 := Lib.hid ((hb.block Bd (Array.getElem?_eq_some_iff.1 NBd3.out).1).trans NBd3.out)
      have FD4 := Lib.hid ((FD3.out).keep hb (Nat.le_refl _))
      have FM4 := Lib.hid hdm
      clear HB3 NBs3 NBp3 NBd3 cBs0_3 cBs1_3 cBs2_3 cBs3_3 cBs4_3 cBp0_3 cBp1_3 cBd0_3 cBd1_3 cBd2_3 FD3 hdm hb 
      obtain ⟨cBs0_4, cBs1_4, cBs2_4, cBs3_4, cBs4_4⟩ := cells5 NBs4.out
      obtain ⟨cBp0_4, cBp1_4⟩ := cells2 NBp4.out
      obtain ⟨cBd0_4, cBd1_4, cBd2_4⟩ := cells3 NBd4.out
      have d9 : dips.length ≤ 1000000 := by omega
      have hld := Lib.hid (ldipped_any s A cp Ac Ak cc ck c k Am cm xs w4 n9 c9 k9 hx6 (HA.out.keep HB4.out (Nat.le_refl _)) (HC.out.keep HB4.out (Nat.le_refl _)) (HK.out.keep HB4.out (Nat.le_refl _)) FM4.out)
      have HV0 := Lib.hid (HDO.out.valid H0.out hd4)
      by_cases hv : dippedL s c k xs = 0
      rotate_left
      · obtain ⟨E, hE⟩ : ∃ E, dippedL s c k xs = E := ⟨_, rfl⟩
        rw [hE] at hld hv
        have hne : (E != 0) = true := by simpa using hv
        clear hE hv
        go_wp2_with fail
        refine (hld.out).mono ?_
        rintro e w5 ⟨rfl, hb⟩
        have HB5 := Lib.hid ((HB4.out).trans (hb.mono (HB4.out).size))
        have NBs5 := Lib.hid ((hb.block Bs (Array.getElem?_eq_some_iff.1 NBs4.out).1).trans NBs4.out)
        have NBp5 := Lib.hid ((hb.block Bp (Array.getElem?_eq_some_iff.1 NBp4.out).1).trans NBp4.out)
        have NBd5 := Lib.hid ((hb.block Bd (Array.getElem?_eq_some_iff.1 NBd4.out).1).trans NBd4.out)
        have FD5 := Lib.hid ((FD4.out).keep hb (Nat.le_refl _))
        have FM5 := Lib.hid ((FM4.out).keep hb (Nat.le_refl _))
        clear HB4 NBs4 NBp4 NBd4 cBs0_4 cBs1_4 cBs2_4 cBs3_4 cBs4_4 cBp0_4 cBp1_4 cBd0_4 cBd1_4 cBd2_4 FD4 FM4 hb hld
        obtain ⟨cBs0_5, cBs1_5, cBs2_5, cBs3_5, cBs4_5⟩ := cells5 NBs5.out
        obtain ⟨cBp0_5, cBp1_5⟩ := cells2 NBp5.out
        obtain ⟨cBd0_5, cBd1_5, cBd2_5⟩ := cells3 NBd5.out
        go_wp2_with fail
        refine (awake_any _).mono ?_
        rintro e w6 ⟨rfl, hb⟩
        have HB6 := Lib.hid ((HB5.out).trans (hb.mono (HB5.out).size))
        have NBs6 := Lib.hid ((hb.block Bs (Array.getElem?_eq_some_iff.1 NBs5.out).1).trans NBs5.out)
        have NBp6 := Lib.hid ((hb.block Bp (Array.getElem?_eq_some_iff.1 NBp5.out).1).trans NBp5.out)
        have NBd6 := Lib.hid ((hb.block Bd (Array.getElem?_eq_some_iff.1 NBd5.out).1).trans NBd5.out)
        have FD6 := Lib.hid ((FD5.out).keep hb (Nat.le_refl _))
        have FM6 := Lib.hid ((FM5.out).keep hb (Nat.le_refl _))
        clear HB5 NBs5 NBp5 NBd5 cBs0_5 cBs1_5 cBs2_5 cBs3_5 cBs4_5 cBp0_5 cBp1_5 cBd0_5 cBd1_5 cBd2_5 FD5 FM5 hb 
        obtain ⟨cBs0_6, cBs1_6, cBs2_6, cBs3_6, cBs4_6⟩ := cells5 NBs6.out
        obtain ⟨cBp0_6, cBp1_6⟩ := cells2 NBp6.out
        obtain ⟨cBd0_6, cBd1_6, cBd2_6⟩ := cells3 NBd6.out
        go_wp2_with fail
        go_ret
        exact ⟨rfl, HB6.out⟩
      · rw [hv] at hld
        have HV1 := Lib.hid hv
        clear hv
        go_wp2_with fail
        refine (hld.out).mono ?_
        rintro e w5 ⟨rfl, hb⟩
        have HB5 := Lib.hid ((HB4.out).trans (hb.mono (HB4.out).size))
        have NBs5 := Lib.hid ((hb.block Bs (Array.getElem?_eq_some_iff.1 NBs4.out).1).trans NBs4.out)
        have NBp5 := Lib.hid ((hb.block Bp (Array.getElem?_eq_some_iff.1 NBp4.out).1).trans NBp4.out)
        have NBd5 := Lib.hid ((hb.block Bd (Array.getElem?_eq_some_iff.1 NBd4.out).1).trans NBd4.out)
        have FD5 := Lib.hid ((FD4.out).keep hb (Nat.le_refl _))
        have FM5 := Lib.hid ((FM4.out).keep hb (Nat.le_refl _))
        clear HB4 NBs4 NBp4 NBd4 cBs0_4 cBs1_4 cBs2_4 cBs3_4 cBs4_4 cBp0_4 cBp1_4 cBd0_4 cBd1_4 cBd2_4 FD4 FM4 hb hld
        obtain ⟨cBs0_5, cBs1_5, cBs2_5, cBs3_5, cBs4_5⟩ := cells5 NBs5.out
        obtain ⟨cBp0_5, cBp1_5⟩ := cells2 NBp5.out
        obtain ⟨cBd0_5, cBd1_5, cBd2_5⟩ := cells3 NBd5.out
        have ho1 := Lib.hid (fun A2 cp2 Ac2 Ak2 cc2 ck2 Ax cx W x1 x2 x3 x4 => oil_gen s A2 cp2 Ac2 Ak2 cc2 ck2 c k Ax cx dips W x1 x2 x3 x4 HV0.out)
        have ho2 := Lib.hid (fun A2 cp2 Ac2 Ak2 cc2 ck2 Ax cx W x1 x2 x3 x4 => oil_gen s A2 cp2 Ac2 Ak2 cc2 ck2 c k Ax cx xs W x1 x2 x3 x4 HV1.out)
        have hl1 := fun A2 cp2 Ac2 Ak2 cc2 ck2 Ax cx W x1 x2 x3 x4 => leave_yes s A2 cp2 Ac2 Ak2 cc2 ck2 c k Ax cx dips W x1 x2 x3 x4 HV0.out
        have hl2 := fun A2 cp2 Ac2 Ak2 cc2 ck2 Ax cx W x1 x2 x3 x4 => leave_yes s A2 cp2 Ac2 Ak2 cc2 ck2 c k Ax cx xs W x1 x2 x3 x4 HV1.out
        have hla := leave_app (c := atL c) (k := atL k) (dips := dips) (d := d) HOK.out
        rw [HXS.out] at hla
        have hln := leave_nil (c := atL c) (k := atL k) (dips := dips) HOK.out
        have hlm := leave_nil (c := atL c) (k := atL k) (dips := xs) HOK.out
        have hlen := (leaveL_spec (c := atL c) (k := atL k) (dips := dips) HOK.out).2.1.len
        generalize leaveL s (atL c) (atL k) dips = l at hl1 hla hln hlen
        generalize leaveL s (atL c) (atL k) xs = l' at hl2 hla hlm
        have HL1 := Lib.hid hl1
        have HL2 := Lib.hid hl2
        have HLA := Lib.hid hla
        have HLN := Lib.hid hln
        have HLM := Lib.hid hlm
        have l9 : l.length ≤ 1000 := by
          rcases hlen with h | h
          · rw [h]; simp
          · omega
        clear hl1 hl2 hla hln hlm hlen
        go_wp2_with fail
        go_region_held3 (fun X => X.cell? ⟨Bs, 0, none⟩ = some (.int .i64 s.cap) ∧ X.cell? ⟨Bs, 1, none⟩ = some (.int .i64 s.can) ∧ X.cell? ⟨Bs, 2, none⟩ = some (.int .i64 s.sl) ∧ X.cell? ⟨Bs, 3, none⟩ = some (.int .i64 s.sh) ∧ X.cell? ⟨Bs, 4, none⟩ = some (.slice A s.ns.length cp) ∧ X.cell? ⟨Bp, 0, none⟩ = some (.slice Ac c.length cc) ∧ X.cell? ⟨Bp, 1, none⟩ = some (.slice Ak k.length ck))
          (first | go_keep | exact ⟨(cell_later hb0 cBs0_5), (cell_later hb0 cBs1_5), (cell_later hb0 cBs2_5), (cell_later hb0 cBs3_5), (cell_later hb0 cBs4_5), (cell_later hb0 cBp0_5), (cell_later hb0 cBp1_5)⟩ | exact ⟨(cell_later hb1 (cell_later hb0 cBs0_5)), (cell_later hb1 (cell_later hb0 cBs1_5)), (cell_later hb1 (cell_later hb0 cBs2_5)), (cell_later hb1 (cell_later hb0 cBs3_5)), (cell_later hb1 (cell_later hb0 cBs4_5)), (cell_later hb1 (cell_later hb0 cBp0_5)), (cell_later hb1 (cell_later hb0 cBp1_5))⟩ | exact ⟨(cell_later hb2 (cell_later hb1 (cell_later hb0 cBs0_5))), (cell_later hb2 (cell_later hb1 (cell_later hb0 cBs1_5))), (cell_later hb2 (cell_later hb1 (cell_later hb0 cBs2_5))), (cell_later hb2 (cell_later hb1 (cell_later hb0 cBs3_5))), (cell_later hb2 (cell_later hb1 (cell_later hb0 cBs4_5))), (cell_later hb2 (cell_later hb1 (cell_later hb0 cBp0_5))), (cell_later hb2 (cell_later hb1 (cell_later hb0 cBp1_5)))⟩ | exact ⟨(cell_later hb3 (cell_later hb2 (cell_later hb1 (cell_later hb0 cBs0_5)))), (cell_later hb3 (cell_later hb2 (cell_later hb1 (cell_later hb0 cBs1_5)))), (cell_later hb3 (cell_later hb2 (cell_later hb1 (cell_later hb0 cBs2_5)))), (cell_later hb3 (cell_later hb2 (cell_later hb1 (cell_later hb0 cBs3_5)))), (cell_later hb3 (cell_later hb2 (cell_later hb1 (cell_later hb0 cBs4_5)))), (cell_later hb3 (cell_later hb2 (cell_later hb1 (cell_later hb0 cBp0_5)))), (cell_later hb3 (cell_later hb2 (cell_later hb1 (cell_later hb0 cBp1_5))))⟩)
          (first | (go_at_call 19; refine (store_conv s A cp w5.drew (HA.out.keep HB5.out.drew (Nat.le_refl _)) n9).mono ?_; rintro e w5_0 ⟨A2, cp2, rfl, hs2, hb0⟩; have hB0 := HB5.out.drew.trans (hb0.mono HB5.out.drew.size); have hf1 := (FD5.out.drew).keep hb0 (Nat.le_refl _)) | (go_at_call 21; refine (plan_conv Ac Ak cc ck c k w5_0 n1 n2 (HC.out.keep hB0 (Nat.le_refl _)) (HK.out.keep hB0 (Nat.le_refl _)) c9 k9).mono ?_; rintro e w5_1 ⟨Ac2, Ak2, cc2, ck2, rfl, hc2, hk2, hb1⟩; have hB1 := hB0.trans (hb1.mono hB0.size); have hs3 := hs2.keep hb1 (Nat.le_refl _); have hf2 := hf1.keep hb1 (Nat.le_refl _)) | (go_at_call 31; refine (dips_conv Ad cd dips w5_1 hf2 d9).mono ?_; rintro e w5_2 ⟨Ax, cx, rfl, hdx, hb2⟩; have hB2 := hB1.trans (hb2.mono hB1.size); have hs4 := hs3.keep hb2 (Nat.le_refl _); have hc3 := hc2.keep hb2 (Nat.le_refl _); have hk3 := hk2.keep hb2 (Nat.le_refl _)) | (go_at_call 45; refine (ho1.out A2 cp2 Ac2 Ak2 cc2 ck2 Ax cx w5_2 hs4 hc3 hk3 hdx).mono ?_; rintro e w6 ⟨A1, c1, z1, E1, L, H, rfl, hoa, hb3⟩; have hB3 := hB2.trans (hb3.mono hB2.size)))
        have hbR : Below w5.drew.heap.size w5.drew w6 := ((((((hb0).trans (hb1.mono (hb0).size))).trans (hb2.mono (((hb0).trans (hb1.mono (hb0).size))).size))).trans (hb3.mono (((((hb0).trans (hb1.mono (hb0).size))).trans (hb2.mono (((hb0).trans (hb1.mono (hb0).size))).size))).size))
        have HB6 := Lib.hid ((HB5.out.drew).trans (hbR.mono (HB5.out.drew).size))
        have NBs6 := Lib.hid ((hbR.block Bs (Array.getElem?_eq_some_iff.1 NBs5.out).1).trans NBs5.out)
        have NBp6 := Lib.hid ((hbR.block Bp (Array.getElem?_eq_some_iff.1 NBp5.out).1).trans NBp5.out)
        have NBd6 := Lib.hid ((hbR.block Bd (Array.getElem?_eq_some_iff.1 NBd5.out).1).trans NBd5.out)
        have FD6 := Lib.hid ((FD5.out.drew).keep hbR (Nat.le_refl _))
        have FM6 := Lib.hid ((FM5.out.drew).keep hbR (Nat.le_refl _))
        have FO6 := Lib.hid hoa
        clear HB5 NBs5 NBp5 NBd5 cBs0_5 cBs1_5 cBs2_5 cBs3_5 cBs4_5 cBp0_5 cBp1_5 cBd0_5 cBd1_5 cBd2_5 FD5 FM5 hoa hbR hb0 hB0 hb1 hB1 hb2 hB2 hb3 hB3 hs2 hc2 hk2 hs3 hf1 hf2 hdx hs4 hc3 hk3
        obtain ⟨cBs0_6, cBs1_6, cBs2_6, cBs3_6, cBs4_6⟩ := cells5 NBs6.out
        obtain ⟨cBp0_6, cBp1_6⟩ := cells2 NBp6.out
        obtain ⟨cBd0_6, cBd1_6, cBd2_6⟩ := cells3 NBd6.out
        go_wp2_with fail
        go_region_held3 (fun X => X.cell? ⟨Bs, 0, none⟩ = some (.int .i64 s.cap) ∧ X.cell? ⟨Bs, 1, none⟩ = some (.int .i64 s.can) ∧ X.cell? ⟨Bs, 2, none⟩ = some (.int .i64 s.sl) ∧ X.cell? ⟨Bs, 3, none⟩ = some (.int .i64 s.sh) ∧ X.cell? ⟨Bs, 4, none⟩ = some (.slice A s.ns.length cp) ∧ X.cell? ⟨Bp, 0, none⟩ = some (.slice Ac c.length cc) ∧ X.cell? ⟨Bp, 1, none⟩ = some (.slice Ak k.length ck))
          (first | go_keep | exact ⟨(cell_later hb0 cBs0_6), (cell_later hb0 cBs1_6), (cell_later hb0 cBs2_6), (cell_later hb0 cBs3_6), (cell_later hb0 cBs4_6), (cell_later hb0 cBp0_6), (cell_later hb0 cBp1_6)⟩ | exact ⟨(cell_later hb1 (cell_later hb0 cBs0_6)), (cell_later hb1 (cell_later hb0 cBs1_6)), (cell_later hb1 (cell_later hb0 cBs2_6)), (cell_later hb1 (cell_later hb0 cBs3_6)), (cell_later hb1 (cell_later hb0 cBs4_6)), (cell_later hb1 (cell_later hb0 cBp0_6)), (cell_later hb1 (cell_later hb0 cBp1_6))⟩ | exact ⟨(cell_later hb2 (cell_later hb1 (cell_later hb0 cBs0_6))), (cell_later hb2 (cell_later hb1 (cell_later hb0 cBs1_6))), (cell_later hb2 (cell_later hb1 (cell_later hb0 cBs2_6))), (cell_later hb2 (cell_later hb1 (cell_later hb0 cBs3_6))), (cell_later hb2 (cell_later hb1 (cell_later hb0 cBs4_6))), (cell_later hb2 (cell_later hb1 (cell_later hb0 cBp0_6))), (cell_later hb2 (cell_later hb1 (cell_later hb0 cBp1_6)))⟩ | exact ⟨(cell_later hb3 (cell_later hb2 (cell_later hb1 (cell_later hb0 cBs0_6)))), (cell_later hb3 (cell_later hb2 (cell_later hb1 (cell_later hb0 cBs1_6)))), (cell_later hb3 (cell_later hb2 (cell_later hb1 (cell_later hb0 cBs2_6)))), (cell_later hb3 (cell_later hb2 (cell_later hb1 (cell_later hb0 cBs3_6)))), (cell_later hb3 (cell_later hb2 (cell_later hb1 (cell_later hb0 cBs4_6)))), (cell_later hb3 (cell_later hb2 (cell_later hb1 (cell_later hb0 cBp0_6)))), (cell_later hb3 (cell_later hb2 (cell_later hb1 (cell_later hb0 cBp1_6))))⟩)
          (first | (go_at_call 19; refine (store_conv s A cp w6.drew (HA.out.keep HB6.out.drew (Nat.le_refl _)) n9).mono ?_; rintro e w6_0 ⟨A2, cp2, rfl, hs2, hb0⟩; have hB0 := HB6.out.drew.trans (hb0.mono HB6.out.drew.size); have hf1 := (FM6.out.drew).keep hb0 (Nat.le_refl _)) | (go_at_call 21; refine (plan_conv Ac Ak cc ck c k w6_0 n1 n2 (HC.out.keep hB0 (Nat.le_refl _)) (HK.out.keep hB0 (Nat.le_refl _)) c9 k9).mono ?_; rintro e w6_1 ⟨Ac2, Ak2, cc2, ck2, rfl, hc2, hk2, hb1⟩; have hB1 := hB0.trans (hb1.mono hB0.size); have hs3 := hs2.keep hb1 (Nat.le_refl _); have hf2 := hf1.keep hb1 (Nat.le_refl _)) | (go_at_call 31; refine (dips_conv Am cm xs w6_1 hf2 hx6).mono ?_; rintro e w6_2 ⟨Ax, cx, rfl, hdx, hb2⟩; have hB2 := hB1.trans (hb2.mono hB1.size); have hs4 := hs3.keep hb2 (Nat.le_refl _); have hc3 := hc2.keep hb2 (Nat.le_refl _); have hk3 := hk2.keep hb2 (Nat.le_refl _)) | (go_at_call 45; refine (ho2.out A2 cp2 Ac2 Ak2 cc2 ck2 Ax cx w6_2 hs4 hc3 hk3 hdx).mono ?_; rintro e w7 ⟨A3, c3, z3, E3, L', H', rfl, hob, hb3⟩; have hB3 := hB2.trans (hb3.mono hB2.size)))
        have hbR : Below w6.drew.heap.size w6.drew w7 := ((((((hb0).trans (hb1.mono (hb0).size))).trans (hb2.mono (((hb0).trans (hb1.mono (hb0).size))).size))).trans (hb3.mono (((((hb0).trans (hb1.mono (hb0).size))).trans (hb2.mono (((hb0).trans (hb1.mono (hb0).size))).size))).size))
        have HB7 := Lib.hid ((HB6.out.drew).trans (hbR.mono (HB6.out.drew).size))
        have NBs7 := Lib.hid ((hbR.block Bs (Array.getElem?_eq_some_iff.1 NBs6.out).1).trans NBs6.out)
        have NBp7 := Lib.hid ((hbR.block Bp (Array.getElem?_eq_some_iff.1 NBp6.out).1).trans NBp6.out)
        have NBd7 := Lib.hid ((hbR.block Bd (Array.getElem?_eq_some_iff.1 NBd6.out).1).trans NBd6.out)
        have FD7 := Lib.hid ((FD6.out.drew).keep hbR (Nat.le_refl _))
        have FM7 := Lib.hid ((FM6.out.drew).keep hbR (Nat.le_refl _))
        have FO7 := Lib.hid ((FO6.out.drew).keep hbR (Nat.le_refl _))
        have FP7 := Lib.hid hob
        clear HB6 NBs6 NBp6 NBd6 cBs0_6 cBs1_6 cBs2_6 cBs3_6 cBs4_6 cBp0_6 cBp1_6 cBd0_6 cBd1_6 cBd2_6 FD6 FM6 FO6 hob hbR hb0 hB0 hb1 hB1 hb2 hB2 hb3 hB3 hs2 hc2 hk2 hs3 hf1 hf2 hdx hs4 hc3 hk3
        obtain ⟨cBs0_7, cBs1_7, cBs2_7, cBs3_7, cBs4_7⟩ := cells5 NBs7.out
        obtain ⟨cBp0_7, cBp1_7⟩ := cells2 NBp7.out
        obtain ⟨cBd0_7, cBd1_7, cBd2_7⟩ := cells3 NBd7.out
        go_wp2_with fail
        go_region_held3 (fun X => X.cell? ⟨Bs, 0, none⟩ = some (.int .i64 s.cap) ∧ X.cell? ⟨Bs, 1, none⟩ = some (.int .i64 s.can) ∧ X.cell? ⟨Bs, 2, none⟩ = some (.int .i64 s.sl) ∧ X.cell? ⟨Bs, 3, none⟩ = some (.int .i64 s.sh) ∧ X.cell? ⟨Bs, 4, none⟩ = some (.slice A s.ns.length cp) ∧ X.cell? ⟨Bp, 0, none⟩ = some (.slice Ac c.length cc) ∧ X.cell? ⟨Bp, 1, none⟩ = some (.slice Ak k.length ck))
          (first | go_keep | exact ⟨(cell_later hb0 cBs0_7), (cell_later hb0 cBs1_7), (cell_later hb0 cBs2_7), (cell_later hb0 cBs3_7), (cell_later hb0 cBs4_7), (cell_later hb0 cBp0_7), (cell_later hb0 cBp1_7)⟩ | exact ⟨(cell_later hb1 (cell_later hb0 cBs0_7)), (cell_later hb1 (cell_later hb0 cBs1_7)), (cell_later hb1 (cell_later hb0 cBs2_7)), (cell_later hb1 (cell_later hb0 cBs3_7)), (cell_later hb1 (cell_later hb0 cBs4_7)), (cell_later hb1 (cell_later hb0 cBp0_7)), (cell_later hb1 (cell_later hb0 cBp1_7))⟩ | exact ⟨(cell_later hb2 (cell_later hb1 (cell_later hb0 cBs0_7))), (cell_later hb2 (cell_later hb1 (cell_later hb0 cBs1_7))), (cell_later hb2 (cell_later hb1 (cell_later hb0 cBs2_7))), (cell_later hb2 (cell_later hb1 (cell_later hb0 cBs3_7))), (cell_later hb2 (cell_later hb1 (cell_later hb0 cBs4_7))), (cell_later hb2 (cell_later hb1 (cell_later hb0 cBp0_7))), (cell_later hb2 (cell_later hb1 (cell_later hb0 cBp1_7)))⟩ | exact ⟨(cell_later hb3 (cell_later hb2 (cell_later hb1 (cell_later hb0 cBs0_7)))), (cell_later hb3 (cell_later hb2 (cell_later hb1 (cell_later hb0 cBs1_7)))), (cell_later hb3 (cell_later hb2 (cell_later hb1 (cell_later hb0 cBs2_7)))), (cell_later hb3 (cell_later hb2 (cell_later hb1 (cell_later hb0 cBs3_7)))), (cell_later hb3 (cell_later hb2 (cell_later hb1 (cell_later hb0 cBs4_7)))), (cell_later hb3 (cell_later hb2 (cell_later hb1 (cell_later hb0 cBp0_7)))), (cell_later hb3 (cell_later hb2 (cell_later hb1 (cell_later hb0 cBp1_7))))⟩)
          (first | (go_at_call 19; refine (store_conv s A cp w7.drew (HA.out.keep HB7.out.drew (Nat.le_refl _)) n9).mono ?_; rintro e w7_0 ⟨A2, cp2, rfl, hs2, hb0⟩; have hB0 := HB7.out.drew.trans (hb0.mono HB7.out.drew.size); have hf1 := (FD7.out.drew).keep hb0 (Nat.le_refl _)) | (go_at_call 21; refine (plan_conv Ac Ak cc ck c k w7_0 n1 n2 (HC.out.keep hB0 (Nat.le_refl _)) (HK.out.keep hB0 (Nat.le_refl _)) c9 k9).mono ?_; rintro e w7_1 ⟨Ac2, Ak2, cc2, ck2, rfl, hc2, hk2, hb1⟩; have hB1 := hB0.trans (hb1.mono hB0.size); have hs3 := hs2.keep hb1 (Nat.le_refl _); have hf2 := hf1.keep hb1 (Nat.le_refl _)) | (go_at_call 31; refine (dips_conv Ad cd dips w7_1 hf2 d9).mono ?_; rintro e w7_2 ⟨Ax, cx, rfl, hdx, hb2⟩; have hB2 := hB1.trans (hb2.mono hB1.size); have hs4 := hs3.keep hb2 (Nat.le_refl _); have hc3 := hc2.keep hb2 (Nat.le_refl _); have hk3 := hk2.keep hb2 (Nat.le_refl _)) | (go_at_call 30; refine (HL1.out A2 cp2 Ac2 Ak2 cc2 ck2 Ax cx w7_2 hs4 hc3 hk3 hdx).mono ?_; rintro e w8 ⟨A5, c5, rfl, hlv, hb3⟩; have hB3 := hB2.trans (hb3.mono hB2.size)))
        have hbR : Below w7.drew.heap.size w7.drew w8 := ((((((hb0).trans (hb1.mono (hb0).size))).trans (hb2.mono (((hb0).trans (hb1.mono (hb0).size))).size))).trans (hb3.mono (((((hb0).trans (hb1.mono (hb0).size))).trans (hb2.mono (((hb0).trans (hb1.mono (hb0).size))).size))).size))
        have HB8 := Lib.hid ((HB7.out.drew).trans (hbR.mono (HB7.out.drew).size))
        have NBs8 := Lib.hid ((hbR.block Bs (Array.getElem?_eq_some_iff.1 NBs7.out).1).trans NBs7.out)
        have NBp8 := Lib.hid ((hbR.block Bp (Array.getElem?_eq_some_iff.1 NBp7.out).1).trans NBp7.out)
        have NBd8 := Lib.hid ((hbR.block Bd (Array.getElem?_eq_some_iff.1 NBd7.out).1).trans NBd7.out)
        have FD8 := Lib.hid ((FD7.out.drew).keep hbR (Nat.le_refl _))
        have FM8 := Lib.hid ((FM7.out.drew).keep hbR (Nat.le_refl _))
        have FO8 := Lib.hid ((FO7.out.drew).keep hbR (Nat.le_refl _))
        have FP8 := Lib.hid ((FP7.out.drew).keep hbR (Nat.le_refl _))
        clear HB7 NBs7 NBp7 NBd7 cBs0_7 cBs1_7 cBs2_7 cBs3_7 cBs4_7 cBp0_7 cBp1_7 cBd0_7 cBd1_7 cBd2_7 FD7 FM7 FO7 FP7 hbR hb0 hB0 hb1 hB1 hb2 hB2 hb3 hB3 hs2 hc2 hk2 hs3 hf1 hf2 hdx hs4 hc3 hk3
        obtain ⟨cBs0_8, cBs1_8, cBs2_8, cBs3_8, cBs4_8⟩ := cells5 NBs8.out
        obtain ⟨cBp0_8, cBp1_8⟩ := cells2 NBp8.out
        obtain ⟨cBd0_8, cBd1_8, cBd2_8⟩ := cells3 NBd8.out
        clear hlv
        go_wp2_with fail
        go_region_held3 (fun X => X.cell? ⟨Bs, 0, none⟩ = some (.int .i64 s.cap) ∧ X.cell? ⟨Bs, 1, none⟩ = some (.int .i64 s.can) ∧ X.cell? ⟨Bs, 2, none⟩ = some (.int .i64 s.sl) ∧ X.cell? ⟨Bs, 3, none⟩ = some (.int .i64 s.sh) ∧ X.cell? ⟨Bs, 4, none⟩ = some (.slice A s.ns.length cp) ∧ X.cell? ⟨Bp, 0, none⟩ = some (.slice Ac c.length cc) ∧ X.cell? ⟨Bp, 1, none⟩ = some (.slice Ak k.length ck))
          (first | go_keep | exact ⟨(cell_later hb0 cBs0_8), (cell_later hb0 cBs1_8), (cell_later hb0 cBs2_8), (cell_later hb0 cBs3_8), (cell_later hb0 cBs4_8), (cell_later hb0 cBp0_8), (cell_later hb0 cBp1_8)⟩ | exact ⟨(cell_later hb1 (cell_later hb0 cBs0_8)), (cell_later hb1 (cell_later hb0 cBs1_8)), (cell_later hb1 (cell_later hb0 cBs2_8)), (cell_later hb1 (cell_later hb0 cBs3_8)), (cell_later hb1 (cell_later hb0 cBs4_8)), (cell_later hb1 (cell_later hb0 cBp0_8)), (cell_later hb1 (cell_later hb0 cBp1_8))⟩ | exact ⟨(cell_later hb2 (cell_later hb1 (cell_later hb0 cBs0_8))), (cell_later hb2 (cell_later hb1 (cell_later hb0 cBs1_8))), (cell_later hb2 (cell_later hb1 (cell_later hb0 cBs2_8))), (cell_later hb2 (cell_later hb1 (cell_later hb0 cBs3_8))), (cell_later hb2 (cell_later hb1 (cell_later hb0 cBs4_8))), (cell_later hb2 (cell_later hb1 (cell_later hb0 cBp0_8))), (cell_later hb2 (cell_later hb1 (cell_later hb0 cBp1_8)))⟩ | exact ⟨(cell_later hb3 (cell_later hb2 (cell_later hb1 (cell_later hb0 cBs0_8)))), (cell_later hb3 (cell_later hb2 (cell_later hb1 (cell_later hb0 cBs1_8)))), (cell_later hb3 (cell_later hb2 (cell_later hb1 (cell_later hb0 cBs2_8)))), (cell_later hb3 (cell_later hb2 (cell_later hb1 (cell_later hb0 cBs3_8)))), (cell_later hb3 (cell_later hb2 (cell_later hb1 (cell_later hb0 cBs4_8)))), (cell_later hb3 (cell_later hb2 (cell_later hb1 (cell_later hb0 cBp0_8)))), (cell_later hb3 (cell_later hb2 (cell_later hb1 (cell_later hb0 cBp1_8))))⟩)
          (first | (go_at_call 19; refine (store_conv s A cp w8.drew (HA.out.keep HB8.out.drew (Nat.le_refl _)) n9).mono ?_; rintro e w8_0 ⟨A2, cp2, rfl, hs2, hb0⟩; have hB0 := HB8.out.drew.trans (hb0.mono HB8.out.drew.size); have hf1 := (FM8.out.drew).keep hb0 (Nat.le_refl _)) | (go_at_call 21; refine (plan_conv Ac Ak cc ck c k w8_0 n1 n2 (HC.out.keep hB0 (Nat.le_refl _)) (HK.out.keep hB0 (Nat.le_refl _)) c9 k9).mono ?_; rintro e w8_1 ⟨Ac2, Ak2, cc2, ck2, rfl, hc2, hk2, hb1⟩; have hB1 := hB0.trans (hb1.mono hB0.size); have hs3 := hs2.keep hb1 (Nat.le_refl _); have hf2 := hf1.keep hb1 (Nat.le_refl _)) | (go_at_call 31; refine (dips_conv Am cm xs w8_1 hf2 hx6).mono ?_; rintro e w8_2 ⟨Ax, cx, rfl, hdx, hb2⟩; have hB2 := hB1.trans (hb2.mono hB1.size); have hs4 := hs3.keep hb2 (Nat.le_refl _); have hc3 := hc2.keep hb2 (Nat.le_refl _); have hk3 := hk2.keep hb2 (Nat.le_refl _)) | (go_at_call 30; refine (HL2.out A2 cp2 Ac2 Ak2 cc2 ck2 Ax cx w8_2 hs4 hc3 hk3 hdx).mono ?_; rintro e w9 ⟨A6, c6, rfl, hlv, hb3⟩; have hB3 := hB2.trans (hb3.mono hB2.size)))
        have hbR : Below w8.drew.heap.size w8.drew w9 := ((((((hb0).trans (hb1.mono (hb0).size))).trans (hb2.mono (((hb0).trans (hb1.mono (hb0).size))).size))).trans (hb3.mono (((((hb0).trans (hb1.mono (hb0).size))).trans (hb2.mono (((hb0).trans (hb1.mono (hb0).size))).size))).size))
        have HB9 := Lib.hid ((HB8.out.drew).trans (hbR.mono (HB8.out.drew).size))
        have NBs9 := Lib.hid ((hbR.block Bs (Array.getElem?_eq_some_iff.1 NBs8.out).1).trans NBs8.out)
        have NBp9 := Lib.hid ((hbR.block Bp (Array.getElem?_eq_some_iff.1 NBp8.out).1).trans NBp8.out)
        have NBd9 := Lib.hid ((hbR.block Bd (Array.getElem?_eq_some_iff.1 NBd8.out).1).trans NBd8.out)
        have FD9 := Lib.hid ((FD8.out.drew).keep hbR (Nat.le_refl _))
        have FM9 := Lib.hid ((FM8.out.drew).keep hbR (Nat.le_refl _))
        have FO9 := Lib.hid ((FO8.out.drew).keep hbR (Nat.le_refl _))
        have FP9 := Lib.hid ((FP8.out.drew).keep hbR (Nat.le_refl _))
        clear HB8 NBs8 NBp8 NBd8 cBs0_8 cBs1_8 cBs2_8 cBs3_8 cBs4_8 cBp0_8 cBp1_8 cBd0_8 cBd1_8 cBd2_8 FD8 FM8 FO8 FP8 hbR hb0 hB0 hb1 hB1 hb2 hB2 hb3 hB3 hs2 hc2 hk2 hs3 hf1 hf2 hdx hs4 hc3 hk3
        obtain ⟨cBs0_9, cBs1_9, cBs2_9, cBs3_9, cBs4_9⟩ := cells5 NBs9.out
        obtain ⟨cBp0_9, cBp1_9⟩ := cells2 NBp9.out
        obtain ⟨cBd0_9, cBd1_9, cBd2_9⟩ := cells3 NBd9.out
        clear hlv ho1 ho2 HL1 HL2
        obtain ⟨la, hla⟩ : ∃ n, l.length = n := ⟨_, rfl⟩
        obtain ⟨lb, hlb⟩ : ∃ n, l'.length = n := ⟨_, rfl⟩
        have h1 := HLA.out
        have h2 : la = 0 ↔ Cons s (atL c) (atL k) dips := by rw [← HLN.out, ← hla]; exact List.length_eq_zero_iff
        have h3 : lb = 0 ↔ Cons s (atL c) (atL k) xs := by rw [← HLM.out, ← hlb]; exact List.length_eq_zero_iff
        rw [hla] at h1 l9 ⊢
        rw [hlb] at h1 ⊢
        have H2 := Lib.hid h2
        have H3 := Lib.hid h3
        obtain ⟨h11, h12⟩ := h1
        have hd1 : decide ((lb : Int) < (la : Int)) = false := by simp; omega
        have hd2 : decide ((lb : Int) > (la : Int) + 1) = false := by simp; omega
        have hd2' : decide ((la : Int) + 1 < (lb : Int)) = false := by simp; omega
        have wla : IntKind.i64.wrap ((la : Int) + 1) = (la : Int) + 1 := IntWalk.i64_in _ (by omega)
        clear h2 h3 HLA HLN HLM hla hlb
        rcases FO9.out with ⟨hca, rfl, rfl, hra, hrA⟩ | ⟨hca, rfl, rfl⟩
        · have hla0 := H2.out.2 hca
          have e1 : ((la : Int) == 0) = true := by simp [hla0]
          rcases FP9.out with ⟨hcb, rfl, rfl, hrb, hrB⟩ | ⟨hcb, rfl, rfl⟩
          · have hlb0 := H3.out.2 hcb
            have e2 : ((lb : Int) == 0) = true := by simp [hlb0]
            have HLE := Lib.hid (fun i (hi : i < s.ns.length) => app_rng hra (HXS.out.symm ▸ hrb) hi)
            have HRA := Lib.hid hrA
            have HRB := Lib.hid hrB
            have HBF := Lib.hid HB9.out
            clear hla0 hlb0 hcb hca hra hrb hrA hrB
            go_wp2_with fail
            go_loopw [23] (DLRel s.ns.length w9) (fun i _ => s.ns.length - (intOf i).toNat)
            case atStart => exact ⟨0, by omega, rfl, Below.refl _ _⟩
            case round =>
              obtain ⟨j, hj, rfl, hbe⟩ := hrel
              have HX := Lib.hid hbe
              clear hbe
              by_cases hlt : j < s.ns.length
              · have hlt' : decide ((j : Int) < (s.ns.length : Int)) = true := by simpa using hlt
                obtain ⟨b, o, rfl, a0, a1⟩ := (HRA.out.keep HX.out (Nat.le_refl _)).at_ hlt
                obtain ⟨b', o', rfl, d0, d1⟩ := (HRB.out.keep HX.out (Nat.le_refl _)).at_ hlt
                obtain ⟨q1, q2⟩ := HLE.out j hlt
                have q1' : decide (L' j < L j) = false := by simp; omega
                have q2' : decide (H j < H' j) = false := by simp; omega
                have q3' : decide (H' j > H j) = false := by simp; omega
                generalize L j = xj at a0 q1 q1'
                generalize H j = yj at a1 q2 q2' q3'
                generalize L' j = xj' at d0 q1 q1'
                generalize H' j = yj' at d1 q2 q2' q3'
                have i3 : (0 : Int) ≤ (j : Int) := by omega
                have i4 : (j : Int) < (s.ns.length : Int) := by omega
                clear q1 q2
                go_wp2_with fail
                go_quiet (fail)
                go_wp2_with fail
                go_roundw
                case rel => exact ⟨j + 1, by omega, by go_num, HX.out.drewN _⟩
                case measure => simp [intOf]; omega
              · have hlt' : decide ((j : Int) < (s.ns.length : Int)) = false := by simpa using hlt
                have HBG := Lib.hid (HBF.out.trans (HX.out.mono HBF.out.size))
                go_wp2_with fail
                refine (awake_any _).mono ?_
                rintro e wz ⟨rfl, hbz⟩
                go_wp2_with fail
                go_ret
                exact ⟨rfl, HBG.out.trans (hbz.mono HBG.out.size)⟩
          · have hlb0 : lb ≠ 0 := fun h => hcb (H3.out.1 h)
            have e2 : ((lb : Int) == 0) = false := by simpa using hlb0
            clear hla0 hlb0 hcb hca hra hrA
            go_wp2_with fail
            refine (awake_any _).mono ?_
            rintro e w10 ⟨rfl, hb⟩
            have HB10 := Lib.hid ((HB9.out).trans (hb.mono (HB9.out).size))
            have NBs10 := Lib.hid ((hb.block Bs (Array.getElem?_eq_some_iff.1 NBs9.out).1).trans NBs9.out)
            have NBp10 := Lib.hid ((hb.block Bp (Array.getElem?_eq_some_iff.1 NBp9.out).1).trans NBp9.out)
            have NBd10 := Lib.hid ((hb.block Bd (Array.getElem?_eq_some_iff.1 NBd9.out).1).trans NBd9.out)
            have FD10 := Lib.hid ((FD9.out).keep hb (Nat.le_refl _))
            have FM10 := Lib.hid ((FM9.out).keep hb (Nat.le_refl _))
            have FO10 := Lib.hid ((FO9.out).keep hb (Nat.le_refl _))
            have FP10 := Lib.hid ((FP9.out).keep hb (Nat.le_refl _))
            clear HB9 NBs9 NBp9 NBd9 cBs0_9 cBs1_9 cBs2_9 cBs3_9 cBs4_9 cBp0_9 cBp1_9 cBd0_9 cBd1_9 cBd2_9 FD9 FM9 FO9 FP9 hb 
            obtain ⟨cBs0_10, cBs1_10, cBs2_10, cBs3_10, cBs4_10⟩ := cells5 NBs10.out
            obtain ⟨cBp0_10, cBp1_10⟩ := cells2 NBp10.out
            obtain ⟨cBd0_10, cBd1_10, cBd2_10⟩ := cells3 NBd10.out
            go_wp2_with fail
            go_ret
            exact ⟨rfl, HB10.out⟩
        · have hla0 : la ≠ 0 := fun h => hca (H2.out.1 h)
          have e1 : ((la : Int) == 0) = false := by simpa using hla0
          rcases FP9.out with ⟨hcb, rfl, rfl, hrb, hrB⟩ | ⟨hcb, rfl, rfl⟩
          · exact absurd (cons_app (d := d) (HXS.out.symm ▸ hcb)) hca
          · have hlb0 : lb ≠ 0 := fun h => hcb (H3.out.1 h)
            have e2 : ((lb : Int) == 0) = false := by simpa using hlb0
            clear hla0 hlb0 hcb hca
            go_wp2_with fail
            refine (awake_any _).mono ?_
            rintro e w10 ⟨rfl, hb⟩
            have HB10 := Lib.hid ((HB9.out).trans (hb.mono (HB9.out).size))
            have NBs10 := Lib.hid ((hb.block Bs (Array.getElem?_eq_some_iff.1 NBs9.out).1).trans NBs9.out)
            have NBp10 := Lib.hid ((hb.block Bp (Array.getElem?_eq_some_iff.1 NBp9.out).1).trans NBp9.out)
            have NBd10 := Lib.hid ((hb.block Bd (Array.getElem?_eq_some_iff.1 NBd9.out).1).trans NBd9.out)
            have FD10 := Lib.hid ((FD9.out).keep hb (Nat.le_refl _))
            have FM10 := Lib.hid ((FM9.out).keep hb (Nat.le_refl _))
            have FO10 := Lib.hid ((FO9.out).keep hb (Nat.le_refl _))
            have FP10 := Lib.hid ((FP9.out).keep hb (Nat.le_refl _))
            clear HB9 NBs9 NBp9 NBd9 cBs0_9 cBs1_9 cBs2_9 cBs3_9 cBs4_9 cBp0_9 cBp1_9 cBd0_9 cBd1_9 cBd2_9 FD9 FM9 FO9 FP9 hb 
            obtain ⟨cBs0_10, cBs1_10, cBs2_10, cBs3_10, cBs4_10⟩ := cells5 NBs10.out
            obtain ⟨cBp0_10, cBp1_10⟩ := cells2 NBp10.out
            obtain ⟨cBd0_10, cBd1_10, cBd2_10⟩ := cells3 NBd10.out
            go_wp2_with fail
            go_ret
            exact ⟨rfl, HB10.out⟩
end Go.Proofs.Ytefhdcecbmgljaa

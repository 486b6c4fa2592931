/-
  LampLeaves: the walk.
-/
import Derived.Test.YtefhdcecbmgljaaOilC
import Derived.Test.YtefhdcecbmgljaaRefG
import Derived.Test.YtefhdcecbmgljaaRefN
set_option linter.all false
namespace Go.Proofs.Ytefhdcecbmgljaa
open Go.RowKit Go.WalkArith


set_option maxRecDepth 100000 in
set_option maxHeartbeats 8000000 in
theorem leaves_walk (s : St) (A : Option Addr) (cp : Nat) (Ac Ak : Option Addr) (cc ck : Nat) (c k : List Int) (Ad : Option Addr) (cd : Nat) (dips : List Dp) (w : World) (hA : NtsAt w A s.ns) (hc : IntsAt w (.slice Ac c.length cc) c) (hk : IntsAt w (.slice Ak k.length ck) k) (hd : DpsAt w Ad dips) (n1 : NilOk Ac cc) (n2 : NilOk Ak ck) :
    Calls Try.prog 4 #[.agg #[.int .i64 s.cap, .int .i64 s.can, .int .i64 s.sl, .int .i64 s.sh, .slice A s.ns.length cp], .agg #[.slice Ac c.length cc, .slice Ak k.length ck], .slice Ad dips.length cd] w fun e w' => e = .returned (.bool true) ∧ Below w.heap.size w w' := by
  have HA := Lib.hid hA
  have HC := Lib.hid hc
  have HK := Lib.hid hk
  have HD := Lib.hid hd
  clear hA hc hk hd
  have hB0 : Below w.heap.size w ((w.alloc (.cells #[.int .i64 s.cap, .int .i64 s.can, .int .i64 s.sl, .int .i64 s.sh, .slice A s.ns.length cp] 26)).alloc (.cells #[.slice Ac c.length cc, .slice Ak k.length ck] 29)) := ((Below.refl _ _).alloc (Nat.le_refl _) _).alloc (by simp) _
  have hn0 : ((w.alloc (.cells #[.int .i64 s.cap, .int .i64 s.can, .int .i64 s.sl, .int .i64 s.sh, .slice A s.ns.length cp] 26)).alloc (.cells #[.slice Ac c.length cc, .slice Ak k.length ck] 29)).heap[w.heap.size]? = some (.cells #[.int .i64 s.cap, .int .i64 s.can, .int .i64 s.sl, .int .i64 s.sh, .slice A s.ns.length cp] 26 (0, 0)) := (Below.heap_alloc _ _ _ (by simp <;> omega)).trans (heap_new_at _ _ _ rfl)
  have hn1 : ((w.alloc (.cells #[.int .i64 s.cap, .int .i64 s.can, .int .i64 s.sl, .int .i64 s.sh, .slice A s.ns.length cp] 26)).alloc (.cells #[.slice Ac c.length cc, .slice Ak k.length ck] 29)).heap[w.heap.size + 1]? = some (.cells #[.slice Ac c.length cc, .slice Ak k.length ck] 29 (0, 0)) := heap_new_at _ _ _ (by simp)
  have HB1 := Lib.hid hB0
  have NBs1 := Lib.hid hn0
  have NBp1 := Lib.hid hn1
  clear hB0 hn0 hn1
  go_enter Try.func4, Try.ntmps4
  go_wp2_with fail
  generalize ((w.alloc (.cells #[.int .i64 s.cap, .int .i64 s.can, .int .i64 s.sl, .int .i64 s.sh, .slice A s.ns.length cp] 26)).alloc (.cells #[.slice Ac c.length cc, .slice Ak k.length ck] 29)) = w1 at HB1 NBs1 NBp1 ⊢
  obtain ⟨Bp, hBp⟩ : ∃ Bp, w.heap.size + 1 = Bp := ⟨_, rfl⟩
  obtain ⟨Bs, hBs⟩ : ∃ Bs, w.heap.size = Bs := ⟨_, rfl⟩
  have oBp : w.heap.size ≤ Bp := by omega
  have oBsBp : Bs < Bp := by omega
  have oBs : w.heap.size ≤ Bs := by omega
  rw [hBp] at NBp1 ⊢
  rw [hBs] at NBs1 ⊢
  clear hBs hBp
  obtain ⟨cBs0_1, cBs1_1, cBs2_1, cBs3_1, cBs4_1⟩ := cells5 NBs1.out
  obtain ⟨cBp0_1, cBp1_1⟩ := cells2 NBp1.out
  have FD1 := Lib.hid (HD.out.keep HB1.out (Nat.le_refl _))
  have hth := Lib.hid (thin_any A Ac Ak s.ns.length cp c.length cc k.length ck s.cap s.can s.sl s.sh w1)
  by_cases hT : s.ns.length ≤ 9 ∧ c.length ≤ 9 ∧ k.length ≤ 9
  rotate_left
  · rw [show (decide (s.ns.length ≤ 9) && decide (c.length ≤ 9) && decide (k.length ≤ 9)) = false from by simp; omega] at hth
    go_wp2_with fail
    refine (hth.out).mono ?_
    rintro e w2 ⟨rfl, hb⟩
    have HB2 := Lib.hid ((HB1.out).trans (hb.mono (HB1.out).size))
    have NBs2 := Lib.hid ((hb.block Bs (Array.getElem?_eq_some_iff.1 NBs1.out).1).trans NBs1.out)
    have NBp2 := Lib.hid ((hb.block Bp (Array.getElem?_eq_some_iff.1 NBp1.out).1).trans NBp1.out)
    have FD2 := Lib.hid ((FD1.out).keep hb (Nat.le_refl _))
    clear HB1 NBs1 NBp1 cBs0_1 cBs1_1 cBs2_1 cBs3_1 cBs4_1 cBp0_1 cBp1_1 FD1 hb hth
    obtain ⟨cBs0_2, cBs1_2, cBs2_2, cBs3_2, cBs4_2⟩ := cells5 NBs2.out
    obtain ⟨cBp0_2, cBp1_2⟩ := cells2 NBp2.out
    go_wp2_with fail
    refine (awake_any _).mono ?_
    rintro e w3 ⟨rfl, hb⟩
    have HB3 := Lib.hid ((HB2.out).trans (hb.mono (HB2.out).size))
    have NBs3 := Lib.hid ((hb.block Bs (Array.getElem?_eq_some_iff.1 NBs2.out).1).trans NBs2.out)
    have NBp3 := Lib.hid ((hb.block Bp (Array.getElem?_eq_some_iff.1 NBp2.out).1).trans NBp2.out)
    have FD3 := Lib.hid ((FD2.out).keep hb (Nat.le_refl _))
    clear HB2 NBs2 NBp2 cBs0_2 cBs1_2 cBs2_2 cBs3_2 cBs4_2 cBp0_2 cBp1_2 FD2 hb 
    obtain ⟨cBs0_3, cBs1_3, cBs2_3, cBs3_3, cBs4_3⟩ := cells5 NBs3.out
    obtain ⟨cBp0_3, cBp1_3⟩ := cells2 NBp3.out
    go_wp2_with fail
    go_ret
    exact ⟨rfl, HB3.out⟩
  · rw [show (decide (s.ns.length ≤ 9) && decide (c.length ≤ 9) && decide (k.length ≤ 9)) = true from by simp; omega] at hth
    go_wp2_with fail
    refine (hth.out).mono ?_
    rintro e w2 ⟨rfl, hb⟩
    have HB2 := Lib.hid ((HB1.out).trans (hb.mono (HB1.out).size))
    have NBs2 := Lib.hid ((hb.block Bs (Array.getElem?_eq_some_iff.1 NBs1.out).1).trans NBs1.out)
    have NBp2 := Lib.hid ((hb.block Bp (Array.getElem?_eq_some_iff.1 NBp1.out).1).trans NBp1.out)
    have FD2 := Lib.hid ((FD1.out).keep hb (Nat.le_refl _))
    clear HB1 NBs1 NBp1 cBs0_1 cBs1_1 cBs2_1 cBs3_1 cBs4_1 cBp0_1 cBp1_1 FD1 hb hth
    obtain ⟨cBs0_2, cBs1_2, cBs2_2, cBs3_2, cBs4_2⟩ := cells5 NBs2.out
    obtain ⟨cBp0_2, cBp1_2⟩ := cells2 NBp2.out
    obtain ⟨hn9, hc9, hk9⟩ := hT
    by_cases hd9 : dips.length ≤ 9
    rotate_left
    · have h1 : decide ((dips.length : Int) > 9) = true := by simp; omega
      have h2 : decide (9 < (dips.length : Int)) = true := by simp; omega
      go_wp2_with fail
      refine (awake_any _).mono ?_
      rintro e w3 ⟨rfl, hb⟩
      have HB3 := Lib.hid ((HB2.out).trans (hb.mono (HB2.out).size))
      have NBs3 := Lib.hid ((hb.block Bs (Array.getElem?_eq_some_iff.1 NBs2.out).1).trans NBs2.out)
      have NBp3 := Lib.hid ((hb.block Bp (Array.getElem?_eq_some_iff.1 NBp2.out).1).trans NBp2.out)
      have FD3 := Lib.hid ((FD2.out).keep hb (Nat.le_refl _))
      clear HB2 NBs2 NBp2 cBs0_2 cBs1_2 cBs2_2 cBs3_2 cBs4_2 cBp0_2 cBp1_2 FD2 hb 
      obtain ⟨cBs0_3, cBs1_3, cBs2_3, cBs3_3, cBs4_3⟩ := cells5 NBs3.out
      obtain ⟨cBp0_3, cBp1_3⟩ := cells2 NBp3.out
      go_wp2_with fail
      go_ret
      exact ⟨rfl, HB3.out⟩
    · have h1 : decide ((dips.length : Int) > 9) = false := by simp; omega
      have h2 : decide (9 < (dips.length : Int)) = false := by simp; omega
      have n9 : s.ns.length ≤ 1000000 := by omega
      have c9 : c.length ≤ 1000000 := by omega
      have k9 : k.length ≤ 1000000 := by omega
      have d9 : dips.length ≤ 1000000 := by omega
      have hfw := Lib.hid (few_any s A cp 500 w2 n9 (HA.out.keep HB2.out (Nat.le_refl _)))
      cases hf : fewB s 500 with
      | false =>
        rw [hf] at hfw
        clear hf
        go_wp2_with fail
        refine (hfw.out).mono ?_
        rintro e w3 ⟨rfl, hb⟩
        have HB3 := Lib.hid ((HB2.out).trans (hb.mono (HB2.out).size))
        have NBs3 := Lib.hid ((hb.block Bs (Array.getElem?_eq_some_iff.1 NBs2.out).1).trans NBs2.out)
        have NBp3 := Lib.hid ((hb.block Bp (Array.getElem?_eq_some_iff.1 NBp2.out).1).trans NBp2.out)
        have FD3 := Lib.hid ((FD2.out).keep hb (Nat.le_refl _))
        clear HB2 NBs2 NBp2 cBs0_2 cBs1_2 cBs2_2 cBs3_2 cBs4_2 cBp0_2 cBp1_2 FD2 hb hfw
        obtain ⟨cBs0_3, cBs1_3, cBs2_3, cBs3_3, cBs4_3⟩ := cells5 NBs3.out
        obtain ⟨cBp0_3, cBp1_3⟩ := cells2 NBp3.out
        go_wp2_with fail
        refine (awake_any _).mono ?_
        rintro e w4 ⟨rfl, hb⟩
        have HB4 := Lib.hid ((HB3.out).trans (hb.mono (HB3.out).size))
        have NBs4 := Lib.hid ((hb.block Bs (Array.getElem?_eq_some_iff.1 NBs3.out).1).trans NBs3.out)
        have NBp4 := Lib.hid ((hb.block Bp (Array.getElem?_eq_some_iff.1 NBp3.out).1).trans NBp3.out)
        have FD4 := Lib.hid ((FD3.out).keep hb (Nat.le_refl _))
        clear HB3 NBs3 NBp3 cBs0_3 cBs1_3 cBs2_3 cBs3_3 cBs4_3 cBp0_3 cBp1_3 FD3 hb 
        obtain ⟨cBs0_4, cBs1_4, cBs2_4, cBs3_4, cBs4_4⟩ := cells5 NBs4.out
        obtain ⟨cBp0_4, cBp1_4⟩ := cells2 NBp4.out
        go_wp2_with fail
        go_ret
        exact ⟨rfl, HB4.out⟩
      | true =>
        rw [hf] at hfw
        clear hf
        go_wp2_with fail
        refine (hfw.out).mono ?_
        rintro e w3 ⟨rfl, hb⟩
        have HB3 := Lib.hid ((HB2.out).trans (hb.mono (HB2.out).size))
        have NBs3 := Lib.hid ((hb.block Bs (Array.getElem?_eq_some_iff.1 NBs2.out).1).trans NBs2.out)
        have NBp3 := Lib.hid ((hb.block Bp (Array.getElem?_eq_some_iff.1 NBp2.out).1).trans NBp2.out)
        have FD3 := Lib.hid ((FD2.out).keep hb (Nat.le_refl _))
        clear HB2 NBs2 NBp2 cBs0_2 cBs1_2 cBs2_2 cBs3_2 cBs4_2 cBp0_2 cBp1_2 FD2 hb hfw
        obtain ⟨cBs0_3, cBs1_3, cBs2_3, cBs3_3, cBs4_3⟩ := cells5 NBs3.out
        obtain ⟨cBp0_3, cBp1_3⟩ := cells2 NBp3.out
        by_cases h0 : dippedL s c k dips = 0
        rotate_left
        · obtain ⟨Q, hQ⟩ : ∃ Q, dippedL s c k dips = Q := ⟨_, rfl⟩
          have hld := Lib.hid (fun W x1 x2 x3 x4 => ldipped_any s A cp Ac Ak cc ck c k Ad cd dips W n9 c9 k9 d9 x1 x2 x3 x4)
          have hlv := fun A2 cp2 Ac2 Ak2 cc2 ck2 Ax cx W x1 x2 x3 x4 => leave_no s A2 cp2 Ac2 Ak2 cc2 ck2 c k Ax cx dips W x1 x2 x3 x4 n9 c9 k9 d9 h0
          rw [hQ] at hld hlv h0
          have HLV := Lib.hid hlv
          have hq1 : (Q == 0) = false := by simpa using h0
          have hq2 : (Q != 0) = true := by simpa using h0
          have hq3 : (Q == Q) = true := by simp
          clear hQ hlv h0
          go_wp2_with fail
          refine (hld.out w3 (HA.out.keep HB3.out (Nat.le_refl _)) (HC.out.keep HB3.out (Nat.le_refl _)) (HK.out.keep HB3.out (Nat.le_refl _)) FD3.out).mono ?_
          rintro e w4 ⟨rfl, hb⟩
          have HB4 := Lib.hid ((HB3.out).trans (hb.mono (HB3.out).size))
          have NBs4 := Lib.hid ((hb.block Bs (Array.getElem?_eq_some_iff.1 NBs3.out).1).trans NBs3.out)
          have NBp4 := Lib.hid ((hb.block Bp (Array.getElem?_eq_some_iff.1 NBp3.out).1).trans NBp3.out)
          have FD4 := Lib.hid ((FD3.out).keep hb (Nat.le_refl _))
          clear HB3 NBs3 NBp3 cBs0_3 cBs1_3 cBs2_3 cBs3_3 cBs4_3 cBp0_3 cBp1_3 FD3 hb 
          obtain ⟨cBs0_4, cBs1_4, cBs2_4, cBs3_4, cBs4_4⟩ := cells5 NBs4.out
          obtain ⟨cBp0_4, cBp1_4⟩ := cells2 NBp4.out
          go_wp2_with fail
          go_region_held3 (fun X => X.cell? ⟨Bs, 0, none⟩ = some (.int .i64 s.cap) ∧ X.cell? ⟨Bs, 1, none⟩ = some (.int .i64 s.can) ∧ X.cell? ⟨Bs, 2, none⟩ = some (.int .i64 s.sl) ∧ X.cell? ⟨Bs, 3, none⟩ = some (.int .i64 s.sh) ∧ X.cell? ⟨Bs, 4, none⟩ = some (.slice A s.ns.length cp) ∧ X.cell? ⟨Bp, 0, none⟩ = some (.slice Ac c.length cc) ∧ X.cell? ⟨Bp, 1, none⟩ = some (.slice Ak k.length ck))
            (first | go_keep | exact ⟨(cell_later hb0 cBs0_4), (cell_later hb0 cBs1_4), (cell_later hb0 cBs2_4), (cell_later hb0 cBs3_4), (cell_later hb0 cBs4_4), (cell_later hb0 cBp0_4), (cell_later hb0 cBp1_4)⟩ | exact ⟨(cell_later hb1 (cell_later hb0 cBs0_4)), (cell_later hb1 (cell_later hb0 cBs1_4)), (cell_later hb1 (cell_later hb0 cBs2_4)), (cell_later hb1 (cell_later hb0 cBs3_4)), (cell_later hb1 (cell_later hb0 cBs4_4)), (cell_later hb1 (cell_later hb0 cBp0_4)), (cell_later hb1 (cell_later hb0 cBp1_4))⟩ | exact ⟨(cell_later hb2 (cell_later hb1 (cell_later hb0 cBs0_4))), (cell_later hb2 (cell_later hb1 (cell_later hb0 cBs1_4))), (cell_later hb2 (cell_later hb1 (cell_later hb0 cBs2_4))), (cell_later hb2 (cell_later hb1 (cell_later hb0 cBs3_4))), (cell_later hb2 (cell_later hb1 (cell_later hb0 cBs4_4))), (cell_later hb2 (cell_later hb1 (cell_later hb0 cBp0_4))), (cell_later hb2 (cell_later hb1 (cell_later hb0 cBp1_4)))⟩ | exact ⟨(cell_later hb3 (cell_later hb2 (cell_later hb1 (cell_later hb0 cBs0_4)))), (cell_later hb3 (cell_later hb2 (cell_later hb1 (cell_later hb0 cBs1_4)))), (cell_later hb3 (cell_later hb2 (cell_later hb1 (cell_later hb0 cBs2_4)))), (cell_later hb3 (cell_later hb2 (cell_later hb1 (cell_later hb0 cBs3_4)))), (cell_later hb3 (cell_later hb2 (cell_later hb1 (cell_later hb0 cBs4_4)))), (cell_later hb3 (cell_later hb2 (cell_later hb1 (cell_later hb0 cBp0_4)))), (cell_later hb3 (cell_later hb2 (cell_later hb1 (cell_later hb0 cBp1_4))))⟩)
            (first | (go_at_call 19; refine (store_conv s A cp w4.drew (HA.out.keep HB4.out.drew (Nat.le_refl _)) n9).mono ?_; rintro e w4_0 ⟨A2, cp2, rfl, hs2, hb0⟩; have hB0 := HB4.out.drew.trans (hb0.mono HB4.out.drew.size); have hf1 := (FD4.out.drew).keep hb0 (Nat.le_refl _)) | (go_at_call 21; refine (plan_conv Ac Ak cc ck c k w4_0 n1 n2 (HC.out.keep hB0 (Nat.le_refl _)) (HK.out.keep hB0 (Nat.le_refl _)) c9 k9).mono ?_; rintro e w4_1 ⟨Ac2, Ak2, cc2, ck2, rfl, hc2, hk2, hb1⟩; have hB1 := hB0.trans (hb1.mono hB0.size); have hs3 := hs2.keep hb1 (Nat.le_refl _); have hf2 := hf1.keep hb1 (Nat.le_refl _)) | (go_at_call 31; refine (dips_conv Ad cd dips w4_1 hf2 d9).mono ?_; rintro e w4_2 ⟨Ax, cx, rfl, hdx, hb2⟩; have hB2 := hB1.trans (hb2.mono hB1.size); have hs4 := hs3.keep hb2 (Nat.le_refl _); have hc3 := hc2.keep hb2 (Nat.le_refl _); have hk3 := hk2.keep hb2 (Nat.le_refl _)) | (go_at_call 30; refine (HLV.out A2 cp2 Ac2 Ak2 cc2 ck2 Ax cx w4_2 hs4 hc3 hk3 hdx).mono ?_; rintro e w5 ⟨rfl, hb3⟩; have hB3 := hB2.trans (hb3.mono hB2.size)))
          have hbR : Below w4.drew.heap.size w4.drew w5 := ((((((hb0).trans (hb1.mono (hb0).size))).trans (hb2.mono (((hb0).trans (hb1.mono (hb0).size))).size))).trans (hb3.mono (((((hb0).trans (hb1.mono (hb0).size))).trans (hb2.mono (((hb0).trans (hb1.mono (hb0).size))).size))).size))
          have HB5 := Lib.hid ((HB4.out.drew).trans (hbR.mono (HB4.out.drew).size))
          have NBs5 := Lib.hid ((hbR.block Bs (Array.getElem?_eq_some_iff.1 NBs4.out).1).trans NBs4.out)
          have NBp5 := Lib.hid ((hbR.block Bp (Array.getElem?_eq_some_iff.1 NBp4.out).1).trans NBp4.out)
          have FD5 := Lib.hid ((FD4.out.drew).keep hbR (Nat.le_refl _))
          clear HB4 NBs4 NBp4 cBs0_4 cBs1_4 cBs2_4 cBs3_4 cBs4_4 cBp0_4 cBp1_4 FD4 hbR hb0 hB0 hb1 hB1 hb2 hB2 hb3 hB3 hs2 hc2 hk2 hs3 hf1 hf2 hdx hs4 hc3 hk3
          obtain ⟨cBs0_5, cBs1_5, cBs2_5, cBs3_5, cBs4_5⟩ := cells5 NBs5.out
          obtain ⟨cBp0_5, cBp1_5⟩ := cells2 NBp5.out
          go_wp2_with fail
          refine (hld.out w5 (HA.out.keep HB5.out (Nat.le_refl _)) (HC.out.keep HB5.out (Nat.le_refl _)) (HK.out.keep HB5.out (Nat.le_refl _)) FD5.out).mono ?_
          rintro e w6 ⟨rfl, hb⟩
          have HB6 := Lib.hid ((HB5.out).trans (hb.mono (HB5.out).size))
          have NBs6 := Lib.hid ((hb.block Bs (Array.getElem?_eq_some_iff.1 NBs5.out).1).trans NBs5.out)
          have NBp6 := Lib.hid ((hb.block Bp (Array.getElem?_eq_some_iff.1 NBp5.out).1).trans NBp5.out)
          have FD6 := Lib.hid ((FD5.out).keep hb (Nat.le_refl _))
          clear HB5 NBs5 NBp5 cBs0_5 cBs1_5 cBs2_5 cBs3_5 cBs4_5 cBp0_5 cBp1_5 FD5 hb 
          obtain ⟨cBs0_6, cBs1_6, cBs2_6, cBs3_6, cBs4_6⟩ := cells5 NBs6.out
          obtain ⟨cBp0_6, cBp1_6⟩ := cells2 NBp6.out
          go_wp2_with fail
          refine (awake_any _).mono ?_
          rintro e w7 ⟨rfl, hb⟩
          have HB7 := Lib.hid ((HB6.out).trans (hb.mono (HB6.out).size))
          have NBs7 := Lib.hid ((hb.block Bs (Array.getElem?_eq_some_iff.1 NBs6.out).1).trans NBs6.out)
          have NBp7 := Lib.hid ((hb.block Bp (Array.getElem?_eq_some_iff.1 NBp6.out).1).trans NBp6.out)
          have FD7 := Lib.hid ((FD6.out).keep hb (Nat.le_refl _))
          clear HB6 NBs6 NBp6 cBs0_6 cBs1_6 cBs2_6 cBs3_6 cBs4_6 cBp0_6 cBp1_6 FD6 hb 
          obtain ⟨cBs0_7, cBs1_7, cBs2_7, cBs3_7, cBs4_7⟩ := cells5 NBs7.out
          obtain ⟨cBp0_7, cBp1_7⟩ := cells2 NBp7.out
          go_wp2_with fail
          go_ret
          exact ⟨rfl, HB7.out⟩
        · have hld := Lib.hid (fun W x1 x2 x3 x4 => ldipped_any s A cp Ac Ak cc ck c k Ad cd dips W n9 c9 k9 d9 x1 x2 x3 x4)
          rw [h0] at hld
          by_cases hd4 : dips.length ≤ 4
          rotate_left
          · have h3 : decide ((dips.length : Int) > 4) = true := by simp; omega
            have h4 : decide (4 < (dips.length : Int)) = true := by simp; omega
            clear h0
            go_wp2_with fail
            refine (hld.out w3 (HA.out.keep HB3.out (Nat.le_refl _)) (HC.out.keep HB3.out (Nat.le_refl _)) (HK.out.keep HB3.out (Nat.le_refl _)) FD3.out).mono ?_
            rintro e w4 ⟨rfl, hb⟩
            have HB4 := Lib.hid ((HB3.out).trans (hb.mono (HB3.out).size))
            have NBs4 := Lib.hid ((hb.block Bs (Array.getElem?_eq_some_iff.1 NBs3.out).1).trans NBs3.out)
            have NBp4 := Lib.hid ((hb.block Bp (Array.getElem?_eq_some_iff.1 NBp3.out).1).trans NBp3.out)
            have FD4 := Lib.hid ((FD3.out).keep hb (Nat.le_refl _))
            clear HB3 NBs3 NBp3 cBs0_3 cBs1_3 cBs2_3 cBs3_3 cBs4_3 cBp0_3 cBp1_3 FD3 hb 
            obtain ⟨cBs0_4, cBs1_4, cBs2_4, cBs3_4, cBs4_4⟩ := cells5 NBs4.out
            obtain ⟨cBp0_4, cBp1_4⟩ := cells2 NBp4.out
            go_wp2_with fail
            refine (awake_any _).mono ?_
            rintro e w5 ⟨rfl, hb⟩
            have HB5 := Lib.hid ((HB4.out).trans (hb.mono (HB4.out).size))
            have NBs5 := Lib.hid ((hb.block Bs (Array.getElem?_eq_some_iff.1 NBs4.out).1).trans NBs4.out)
            have NBp5 := Lib.hid ((hb.block Bp (Array.getElem?_eq_some_iff.1 NBp4.out).1).trans NBp4.out)
            have FD5 := Lib.hid ((FD4.out).keep hb (Nat.le_refl _))
            clear HB4 NBs4 NBp4 cBs0_4 cBs1_4 cBs2_4 cBs3_4 cBs4_4 cBp0_4 cBp1_4 FD4 hb 
            obtain ⟨cBs0_5, cBs1_5, cBs2_5, cBs3_5, cBs4_5⟩ := cells5 NBs5.out
            obtain ⟨cBp0_5, cBp1_5⟩ := cells2 NBp5.out
            go_wp2_with fail
            go_ret
            exact ⟨rfl, HB5.out⟩
          · have h3 : decide ((dips.length : Int) > 4) = false := by simp; omega
            have h4 : decide (4 < (dips.length : Int)) = false := by simp; omega
            obtain ⟨hp0, _⟩ := dippedL_zero h0
            obtain ⟨_, hdv⟩ := dipsL_zero h0
            have HLV := Lib.hid (fun A2 cp2 Ac2 Ak2 cc2 ck2 Ax cx W x1 x2 x3 x4 => leave_yes s A2 cp2 Ac2 Ak2 cc2 ck2 c k Ax cx dips W x1 x2 x3 x4 h0)
            have HRL := Lib.hid (fun W x1 x2 x3 x4 => rleave_any s A cp Ac Ak cc ck c k Ad cd dips W hp0 hdv (by omega) x1 x2 x3 x4)
            have hlen := (leaveL_spec (c := atL c) (k := atL k) (dips := dips) (planL_zero.1 hp0).1).2.1.len
            generalize leaveL s (atL c) (atL k) dips = l at HLV HRL hlen
            have l9 : l.length ≤ 1000000 := by
              rcases hlen with h | h
              · rw [h]; simp
              · omega
            clear hlen h0 hp0 hdv
            go_wp2_with fail
            refine (hld.out w3 (HA.out.keep HB3.out (Nat.le_refl _)) (HC.out.keep HB3.out (Nat.le_refl _)) (HK.out.keep HB3.out (Nat.le_refl _)) FD3.out).mono ?_
            rintro e w4 ⟨rfl, hb⟩
            have HB4 := Lib.hid ((HB3.out).trans (hb.mono (HB3.out).size))
            have NBs4 := Lib.hid ((hb.block Bs (Array.getElem?_eq_some_iff.1 NBs3.out).1).trans NBs3.out)
            have NBp4 := Lib.hid ((hb.block Bp (Array.getElem?_eq_some_iff.1 NBp3.out).1).trans NBp3.out)
            have FD4 := Lib.hid ((FD3.out).keep hb (Nat.le_refl _))
            clear HB3 NBs3 NBp3 cBs0_3 cBs1_3 cBs2_3 cBs3_3 cBs4_3 cBp0_3 cBp1_3 FD3 hb 
            obtain ⟨cBs0_4, cBs1_4, cBs2_4, cBs3_4, cBs4_4⟩ := cells5 NBs4.out
            obtain ⟨cBp0_4, cBp1_4⟩ := cells2 NBp4.out
            go_wp2_with fail
            go_region_held3 (fun X => X.cell? ⟨Bs, 0, none⟩ = some (.int .i64 s.cap) ∧ X.cell? ⟨Bs, 1, none⟩ = some (.int .i64 s.can) ∧ X.cell? ⟨Bs, 2, none⟩ = some (.int .i64 s.sl) ∧ X.cell? ⟨Bs, 3, none⟩ = some (.int .i64 s.sh) ∧ X.cell? ⟨Bs, 4, none⟩ = some (.slice A s.ns.length cp) ∧ X.cell? ⟨Bp, 0, none⟩ = some (.slice Ac c.length cc) ∧ X.cell? ⟨Bp, 1, none⟩ = some (.slice Ak k.length ck))
              (first | go_keep | exact ⟨(cell_later hb0 cBs0_4), (cell_later hb0 cBs1_4), (cell_later hb0 cBs2_4), (cell_later hb0 cBs3_4), (cell_later hb0 cBs4_4), (cell_later hb0 cBp0_4), (cell_later hb0 cBp1_4)⟩ | exact ⟨(cell_later hb1 (cell_later hb0 cBs0_4)), (cell_later hb1 (cell_later hb0 cBs1_4)), (cell_later hb1 (cell_later hb0 cBs2_4)), (cell_later hb1 (cell_later hb0 cBs3_4)), (cell_later hb1 (cell_later hb0 cBs4_4)), (cell_later hb1 (cell_later hb0 cBp0_4)), (cell_later hb1 (cell_later hb0 cBp1_4))⟩ | exact ⟨(cell_later hb2 (cell_later hb1 (cell_later hb0 cBs0_4))), (cell_later hb2 (cell_later hb1 (cell_later hb0 cBs1_4))), (cell_later hb2 (cell_later hb1 (cell_later hb0 cBs2_4))), (cell_later hb2 (cell_later hb1 (cell_later hb0 cBs3_4))), (cell_later hb2 (cell_later hb1 (cell_later hb0 cBs4_4))), (cell_later hb2 (cell_later hb1 (cell_later hb0 cBp0_4))), (cell_later hb2 (cell_later hb1 (cell_later hb0 cBp1_4)))⟩ | exact ⟨(cell_later hb3 (cell_later hb2 (cell_later hb1 (cell_later hb0 cBs0_4)))), (cell_later hb3 (cell_later hb2 (cell_later hb1 (cell_later hb0 cBs1_4)))), (cell_later hb3 (cell_later hb2 (cell_later hb1 (cell_later hb0 cBs2_4)))), (cell_later hb3 (cell_later hb2 (cell_later hb1 (cell_later hb0 cBs3_4)))), (cell_later hb3 (cell_later hb2 (cell_later hb1 (cell_later hb0 cBs4_4)))), (cell_later hb3 (cell_later hb2 (cell_later hb1 (cell_later hb0 cBp0_4)))), (cell_later hb3 (cell_later hb2 (cell_later hb1 (cell_later hb0 cBp1_4))))⟩)
              (first | (go_at_call 19; refine (store_conv s A cp w4.drew (HA.out.keep HB4.out.drew (Nat.le_refl _)) n9).mono ?_; rintro e w4_0 ⟨A2, cp2, rfl, hs2, hb0⟩; have hB0 := HB4.out.drew.trans (hb0.mono HB4.out.drew.size); have hf1 := (FD4.out.drew).keep hb0 (Nat.le_refl _)) | (go_at_call 21; refine (plan_conv Ac Ak cc ck c k w4_0 n1 n2 (HC.out.keep hB0 (Nat.le_refl _)) (HK.out.keep hB0 (Nat.le_refl _)) c9 k9).mono ?_; rintro e w4_1 ⟨Ac2, Ak2, cc2, ck2, rfl, hc2, hk2, hb1⟩; have hB1 := hB0.trans (hb1.mono hB0.size); have hs3 := hs2.keep hb1 (Nat.le_refl _); have hf2 := hf1.keep hb1 (Nat.le_refl _)) | (go_at_call 31; refine (dips_conv Ad cd dips w4_1 hf2 d9).mono ?_; rintro e w4_2 ⟨Ax, cx, rfl, hdx, hb2⟩; have hB2 := hB1.trans (hb2.mono hB1.size); have hs4 := hs3.keep hb2 (Nat.le_refl _); have hc3 := hc2.keep hb2 (Nat.le_refl _); have hk3 := hk2.keep hb2 (Nat.le_refl _)) | (go_at_call 30; refine (HLV.out A2 cp2 Ac2 Ak2 cc2 ck2 Ax cx w4_2 hs4 hc3 hk3 hdx).mono ?_; rintro e w5 ⟨Al, cl, rfl, hlv, hb3⟩; have hB3 := hB2.trans (hb3.mono hB2.size)))
            have hbR : Below w4.drew.heap.size w4.drew w5 := ((((((hb0).trans (hb1.mono (hb0).size))).trans (hb2.mono (((hb0).trans (hb1.mono (hb0).size))).size))).trans (hb3.mono (((((hb0).trans (hb1.mono (hb0).size))).trans (hb2.mono (((hb0).trans (hb1.mono (hb0).size))).size))).size))
            have HB5 := Lib.hid ((HB4.out.drew).trans (hbR.mono (HB4.out.drew).size))
            have NBs5 := Lib.hid ((hbR.block Bs (Array.getElem?_eq_some_iff.1 NBs4.out).1).trans NBs4.out)
            have NBp5 := Lib.hid ((hbR.block Bp (Array.getElem?_eq_some_iff.1 NBp4.out).1).trans NBp4.out)
            have FD5 := Lib.hid ((FD4.out.drew).keep hbR (Nat.le_refl _))
            have FL5 := Lib.hid hlv
            clear HB4 NBs4 NBp4 cBs0_4 cBs1_4 cBs2_4 cBs3_4 cBs4_4 cBp0_4 cBp1_4 FD4 hlv hbR hb0 hB0 hb1 hB1 hb2 hB2 hb3 hB3 hs2 hc2 hk2 hs3 hf1 hf2 hdx hs4 hc3 hk3
            obtain ⟨cBs0_5, cBs1_5, cBs2_5, cBs3_5, cBs4_5⟩ := cells5 NBs5.out
            obtain ⟨cBp0_5, cBp1_5⟩ := cells2 NBp5.out
            go_wp2_with fail
            refine (hld.out w5 (HA.out.keep HB5.out (Nat.le_refl _)) (HC.out.keep HB5.out (Nat.le_refl _)) (HK.out.keep HB5.out (Nat.le_refl _)) FD5.out).mono ?_
            rintro e w6 ⟨rfl, hb⟩
            have HB6 := Lib.hid ((HB5.out).trans (hb.mono (HB5.out).size))
            have NBs6 := Lib.hid ((hb.block Bs (Array.getElem?_eq_some_iff.1 NBs5.out).1).trans NBs5.out)
            have NBp6 := Lib.hid ((hb.block Bp (Array.getElem?_eq_some_iff.1 NBp5.out).1).trans NBp5.out)
            have FD6 := Lib.hid ((FD5.out).keep hb (Nat.le_refl _))
            have FL6 := Lib.hid ((FL5.out).keep hb (Nat.le_refl _))
            clear HB5 NBs5 NBp5 cBs0_5 cBs1_5 cBs2_5 cBs3_5 cBs4_5 cBp0_5 cBp1_5 FD5 FL5 hb 
            obtain ⟨cBs0_6, cBs1_6, cBs2_6, cBs3_6, cBs4_6⟩ := cells5 NBs6.out
            obtain ⟨cBp0_6, cBp1_6⟩ := cells2 NBp6.out
            go_wp2_with fail
            refine (HRL.out w6 (HA.out.keep HB6.out (Nat.le_refl _)) (HC.out.keep HB6.out (Nat.le_refl _)) (HK.out.keep HB6.out (Nat.le_refl _)) FD6.out).mono ?_
            rintro e w7 ⟨Ar, cr, rfl, hrv, hb⟩
            have HB7 := Lib.hid ((HB6.out).trans (hb.mono (HB6.out).size))
            have NBs7 := Lib.hid ((hb.block Bs (Array.getElem?_eq_some_iff.1 NBs6.out).1).trans NBs6.out)
            have NBp7 := Lib.hid ((hb.block Bp (Array.getElem?_eq_some_iff.1 NBp6.out).1).trans NBp6.out)
            have FD7 := Lib.hid ((FD6.out).keep hb (Nat.le_refl _))
            have FL7 := Lib.hid ((FL6.out).keep hb (Nat.le_refl _))
            have FR7 := Lib.hid hrv
            clear HB6 NBs6 NBp6 cBs0_6 cBs1_6 cBs2_6 cBs3_6 cBs4_6 cBp0_6 cBp1_6 FD6 FL6 hrv hb 
            obtain ⟨cBs0_7, cBs1_7, cBs2_7, cBs3_7, cBs4_7⟩ := cells5 NBs7.out
            obtain ⟨cBp0_7, cBp1_7⟩ := cells2 NBp7.out
            have hsm := Lib.hid (same_any _ _ l l w7 FL7.out FR7.out l9 l9)
            rw [show decide (l = l) = true by simp] at hsm
            go_wp2_with fail
            refine (hsm.out).mono ?_
            rintro e w8 ⟨rfl, hb⟩
            have HB8 := Lib.hid ((HB7.out).trans (hb.mono (HB7.out).size))
            have NBs8 := Lib.hid ((hb.block Bs (Array.getElem?_eq_some_iff.1 NBs7.out).1).trans NBs7.out)
            have NBp8 := Lib.hid ((hb.block Bp (Array.getElem?_eq_some_iff.1 NBp7.out).1).trans NBp7.out)
            have FD8 := Lib.hid ((FD7.out).keep hb (Nat.le_refl _))
            have FL8 := Lib.hid ((FL7.out).keep hb (Nat.le_refl _))
            have FR8 := Lib.hid ((FR7.out).keep hb (Nat.le_refl _))
            clear HB7 NBs7 NBp7 cBs0_7 cBs1_7 cBs2_7 cBs3_7 cBs4_7 cBp0_7 cBp1_7 FD7 FL7 FR7 hb hsm
            obtain ⟨cBs0_8, cBs1_8, cBs2_8, cBs3_8, cBs4_8⟩ := cells5 NBs8.out
            obtain ⟨cBp0_8, cBp1_8⟩ := cells2 NBp8.out
            go_wp2_with fail
            refine (awake_any _).mono ?_
            rintro e w9 ⟨rfl, hb⟩
            have HB9 := Lib.hid ((HB8.out).trans (hb.mono (HB8.out).size))
            have NBs9 := Lib.hid ((hb.block Bs (Array.getElem?_eq_some_iff.1 NBs8.out).1).trans NBs8.out)
            have NBp9 := Lib.hid ((hb.block Bp (Array.getElem?_eq_some_iff.1 NBp8.out).1).trans NBp8.out)
            have FD9 := Lib.hid ((FD8.out).keep hb (Nat.le_refl _))
            have FL9 := Lib.hid ((FL8.out).keep hb (Nat.le_refl _))
            have FR9 := Lib.hid ((FR8.out).keep hb (Nat.le_refl _))
            clear HB8 NBs8 NBp8 cBs0_8 cBs1_8 cBs2_8 cBs3_8 cBs4_8 cBp0_8 cBp1_8 FD8 FL8 FR8 hb 
            obtain ⟨cBs0_9, cBs1_9, cBs2_9, cBs3_9, cBs4_9⟩ := cells5 NBs9.out
            obtain ⟨cBp0_9, cBp1_9⟩ := cells2 NBp9.out
            go_wp2_with fail
            go_ret
            exact ⟨rfl, HB9.out⟩
end Go.Proofs.Ytefhdcecbmgljaa

/-
  LampFewest: the walk.
-/
import Derived.Test.YtefhdcecbmgljaaSumC
import Derived.Test.YtefhdcecbmgljaaRefG
set_option linter.all false
namespace Go.Proofs.Ytefhdcecbmgljaa
open Go.RowKit Go.WalkArith


theorem cans_bd {s : St} {l : List Int} (h : cansB s l = true) : l.length = s.ns.length ∧ ∀ i, i < l.length → -1000 ≤ atL l i ∧ atL l i ≤ 1000 := by
  obtain ⟨h1, h2⟩ := cansB_true.1 h
  exact ⟨h1, fun i hi => by have := h2 i (by omega); omega⟩
set_option maxRecDepth 100000 in
set_option maxHeartbeats 8000000 in
theorem fewest_walk (s : St) (A : Option Addr) (cp : Nat) (Ac Ak : Option Addr) (cc ck : Nat) (c k : List Int) (w : World) (hA : NtsAt w A s.ns) (hc : IntsAt w (.slice Ac c.length cc) c) (hk : IntsAt w (.slice Ak k.length ck) k) (n1 : NilOk Ac cc) (n2 : NilOk Ak ck) :
    Calls Try.prog 14 #[.agg #[.int .i64 s.cap, .int .i64 s.can, .int .i64 s.sl, .int .i64 s.sh, .slice A s.ns.length cp], .agg #[.slice Ac c.length cc, .slice Ak k.length ck]] w fun e w' => e = .returned (.bool true) ∧ Below w.heap.size w w' := by
  have HA := Lib.hid hA
  have HC := Lib.hid hc
  have HK := Lib.hid hk
  clear hA hc hk
  have hB0 : Below w.heap.size w ((w.alloc (.cells #[.int .i64 s.cap, .int .i64 s.can, .int .i64 s.sl, .int .i64 s.sh, .slice A s.ns.length cp] 26)).alloc (.cells #[.slice Ac c.length cc, .slice Ak k.length ck] 29)) := ((Below.refl _ _).alloc (Nat.le_refl _) _).alloc (by simp) _
  have hn0 : ((w.alloc (.cells #[.int .i64 s.cap, .int .i64 s.can, .int .i64 s.sl, .int .i64 s.sh, .slice A s.ns.length cp] 26)).alloc (.cells #[.slice Ac c.length cc, .slice Ak k.length ck] 29)).heap[w.heap.size]? = some (.cells #[.int .i64 s.cap, .int .i64 s.can, .int .i64 s.sl, .int .i64 s.sh, .slice A s.ns.length cp] 26 (0, 0)) := (Below.heap_alloc _ _ _ (by simp <;> omega)).trans (heap_new_at _ _ _ rfl)
  have hn1 : ((w.alloc (.cells #[.int .i64 s.cap, .int .i64 s.can, .int .i64 s.sl, .int .i64 s.sh, .slice A s.ns.length cp] 26)).alloc (.cells #[.slice Ac c.length cc, .slice Ak k.length ck] 29)).heap[w.heap.size + 1]? = some (.cells #[.slice Ac c.length cc, .slice Ak k.length ck] 29 (0, 0)) := heap_new_at _ _ _ (by simp)
  have HB1 := Lib.hid hB0
  have NBs1 := Lib.hid hn0
  have NBp1 := Lib.hid hn1
  clear hB0 hn0 hn1
  go_enter Try.func14, Try.ntmps14
  go_wp2_with fail
  generalize ((w.alloc (.cells #[.int .i64 s.cap, .int .i64 s.can, .int .i64 s.sl, .int .i64 s.sh, .slice A s.ns.length cp] 26)).alloc (.cells #[.slice Ac c.length cc, .slice Ak k.length ck] 29)) = w1 at HB1 NBs1 NBp1 ⊢
  obtain ⟨Bp, hBp⟩ : ∃ Bp, w.heap.size + 1 = Bp := ⟨_, rfl⟩
  obtain ⟨Bs, hBs⟩ : ∃ Bs, w.heap.size = Bs := ⟨_, rfl⟩
  have oBp : w.heap.size ≤ Bp := by omega
  have oBsBp : Bs < Bp := by omega
  have oBs : w.heap.size ≤ Bs := by omega
  rw [hBp] at NBp1 ⊢
  rw [hBs] at NBs1 ⊢
  clear hBs hBp
  obtain ⟨cBs0_1, cBs1_1, cBs2_1, cBs3_1, cBs4_1⟩ := cells5 NBs1.out
  obtain ⟨cBp0_1, cBp1_1⟩ := cells2 NBp1.out
  have hrd := Lib.hid (ready_any s A cp Ac Ak cc ck c k w1 (HA.out.keep HB1.out (Nat.le_refl _)) (HC.out.keep HB1.out (Nat.le_refl _)) (HK.out.keep HB1.out (Nat.le_refl _)))
  cases hR : readyB s c k with
  | false =>
    rw [hR] at hrd
    clear hR
    go_wp2_with fail
    refine (hrd.out).mono ?_
    rintro e w2 ⟨rfl, hb⟩
    have HB2 := Lib.hid ((HB1.out).trans (hb.mono (HB1.out).size))
    have NBs2 := Lib.hid ((hb.block Bs (Array.getElem?_eq_some_iff.1 NBs1.out).1).trans NBs1.out)
    have NBp2 := Lib.hid ((hb.block Bp (Array.getElem?_eq_some_iff.1 NBp1.out).1).trans NBp1.out)
    clear HB1 NBs1 NBp1 cBs0_1 cBs1_1 cBs2_1 cBs3_1 cBs4_1 cBp0_1 cBp1_1  hb hrd
    obtain ⟨cBs0_2, cBs1_2, cBs2_2, cBs3_2, cBs4_2⟩ := cells5 NBs2.out
    obtain ⟨cBp0_2, cBp1_2⟩ := cells2 NBp2.out
    go_wp2_with fail
    refine (awake_any _).mono ?_
    rintro e w3 ⟨rfl, hb⟩
    have HB3 := Lib.hid ((HB2.out).trans (hb.mono (HB2.out).size))
    have NBs3 := Lib.hid ((hb.block Bs (Array.getElem?_eq_some_iff.1 NBs2.out).1).trans NBs2.out)
    have NBp3 := Lib.hid ((hb.block Bp (Array.getElem?_eq_some_iff.1 NBp2.out).1).trans NBp2.out)
    clear HB2 NBs2 NBp2 cBs0_2 cBs1_2 cBs2_2 cBs3_2 cBs4_2 cBp0_2 cBp1_2  hb 
    obtain ⟨cBs0_3, cBs1_3, cBs2_3, cBs3_3, cBs4_3⟩ := cells5 NBs3.out
    obtain ⟨cBp0_3, cBp1_3⟩ := cells2 NBp3.out
    go_wp2_with fail
    go_ret
    exact ⟨rfl, HB3.out⟩
  | true =>
    rw [hR] at hrd
    have h0 := readyB_true hR
    clear hR
    go_wp2_with fail
    refine (hrd.out).mono ?_
    rintro e w2 ⟨rfl, hb⟩
    have HB2 := Lib.hid ((HB1.out).trans (hb.mono (HB1.out).size))
    have NBs2 := Lib.hid ((hb.block Bs (Array.getElem?_eq_some_iff.1 NBs1.out).1).trans NBs1.out)
    have NBp2 := Lib.hid ((hb.block Bp (Array.getElem?_eq_some_iff.1 NBp1.out).1).trans NBp1.out)
    clear HB1 NBs1 NBp1 cBs0_1 cBs1_1 cBs2_1 cBs3_1 cBs4_1 cBp0_1 cBp1_1  hb hrd
    obtain ⟨cBs0_2, cBs1_2, cBs2_2, cBs3_2, cBs4_2⟩ := cells5 NBs2.out
    obtain ⟨cBp0_2, cBp1_2⟩ := cells2 NBp2.out
    obtain ⟨l6, lc, lk⟩ := plan_lens s c k h0
    obtain ⟨hOK, hF, hcb, hwb⟩ := plan_parts h0
    have hpos := hOK.pos
    have H0 := Lib.hid h0
    have HOK := Lib.hid hOK
    have HF := Lib.hid hF
    have HCB := Lib.hid hcb
    have HWB := Lib.hid hwb
    have c9 : c.length ≤ 1000000 := by omega
    have k9 : k.length ≤ 1000000 := by omega
    have n9 : s.ns.length ≤ 1000000 := by omega
    have HLC := Lib.hid lc
    have HLK := Lib.hid lk
    clear h0 hOK hF hcb hwb lc lk
    by_cases hch : chp s (jobD k) s.ns.length 0 s.sl < 524288
    rotate_left
    · have hle : 524288 ≤ chp s (jobD k) s.ns.length 0 s.sl := by omega
      have hdel := Lib.hid (fun A2 cp2 A3 c3 W x1 x2 => deliver_stuck s A2 cp2 A3 c3 k W x1 x2 HOK.out HWB.out hle)
      have HNO := Lib.hid (deliver_none HOK.out HWB.out hle c)
      clear hle hch
      go_wp2_with fail
      go_region_held3 (fun X => X.cell? ⟨Bs, 0, none⟩ = some (.int .i64 s.cap) ∧ X.cell? ⟨Bs, 1, none⟩ = some (.int .i64 s.can) ∧ X.cell? ⟨Bs, 2, none⟩ = some (.int .i64 s.sl) ∧ X.cell? ⟨Bs, 3, none⟩ = some (.int .i64 s.sh) ∧ X.cell? ⟨Bs, 4, none⟩ = some (.slice A s.ns.length cp) ∧ X.cell? ⟨Bp, 0, none⟩ = some (.slice Ac c.length cc) ∧ X.cell? ⟨Bp, 1, none⟩ = some (.slice Ak k.length ck))
        (first | go_keep | exact ⟨(cell_later hb0 cBs0_2), (cell_later hb0 cBs1_2), (cell_later hb0 cBs2_2), (cell_later hb0 cBs3_2), (cell_later hb0 cBs4_2), (cell_later hb0 cBp0_2), (cell_later hb0 cBp1_2)⟩ | exact ⟨(cell_later hb1 (cell_later hb0 cBs0_2)), (cell_later hb1 (cell_later hb0 cBs1_2)), (cell_later hb1 (cell_later hb0 cBs2_2)), (cell_later hb1 (cell_later hb0 cBs3_2)), (cell_later hb1 (cell_later hb0 cBs4_2)), (cell_later hb1 (cell_later hb0 cBp0_2)), (cell_later hb1 (cell_later hb0 cBp1_2))⟩ | exact ⟨(cell_later hb2 (cell_later hb1 (cell_later hb0 cBs0_2))), (cell_later hb2 (cell_later hb1 (cell_later hb0 cBs1_2))), (cell_later hb2 (cell_later hb1 (cell_later hb0 cBs2_2))), (cell_later hb2 (cell_later hb1 (cell_later hb0 cBs3_2))), (cell_later hb2 (cell_later hb1 (cell_later hb0 cBs4_2))), (cell_later hb2 (cell_later hb1 (cell_later hb0 cBp0_2))), (cell_later hb2 (cell_later hb1 (cell_later hb0 cBp1_2)))⟩)
        (first | (go_at_call 19; refine (store_conv s A cp w2.drew (HA.out.keep HB2.out.drew (Nat.le_refl _)) n9).mono ?_; rintro e w2_0 ⟨A2, cp2, rfl, hs2, hb0⟩; have hB0 := HB2.out.drew.trans (hb0.mono HB2.out.drew.size)) | (go_at_call 34; refine (list_some Ak ck k w2_0 n2 (HK.out.keep hB0 (Nat.le_refl _)) k9).mono ?_; rintro e w2_1 ⟨A3, c3, rfl, hl3, hn3, hb1⟩; have hB1 := hB0.trans (hb1.mono hB0.size); have hs3 := hs2.keep hb1 (Nat.le_refl _)) | (go_at_call 33; refine (hdel.out A2 cp2 A3 c3 w2_1 hs3 hl3).mono ?_; rintro e w3 ⟨rfl, hb2⟩; have hB2 := hB1.trans (hb2.mono hB1.size)))
      have hbR : Below w2.drew.heap.size w2.drew w3 := ((((hb0).trans (hb1.mono (hb0).size))).trans (hb2.mono (((hb0).trans (hb1.mono (hb0).size))).size))
      have HB3 := Lib.hid ((HB2.out.drew).trans (hbR.mono (HB2.out.drew).size))
      have NBs3 := Lib.hid ((hbR.block Bs (Array.getElem?_eq_some_iff.1 NBs2.out).1).trans NBs2.out)
      have NBp3 := Lib.hid ((hbR.block Bp (Array.getElem?_eq_some_iff.1 NBp2.out).1).trans NBp2.out)
      clear HB2 NBs2 NBp2 cBs0_2 cBs1_2 cBs2_2 cBs3_2 cBs4_2 cBp0_2 cBp1_2  hbR hb0 hB0 hb1 hB1 hb2 hB2 hs2 hl3 hn3 hs3
      obtain ⟨cBs0_3, cBs1_3, cBs2_3, cBs3_3, cBs4_3⟩ := cells5 NBs3.out
      obtain ⟨cBp0_3, cBp1_3⟩ := cells2 NBp3.out
      have hpp := Lib.hid (fun A2 cp2 Ac2 Ak2 cc2 ck2 W x1 x2 x3 => provePlan_any s A2 cp2 Ac2 Ak2 cc2 ck2 c k W n9 c9 k9 x1 x2 x3)
      rw [HNO.out] at hpp
      clear HNO hdel
      go_wp2_with fail
      go_region_held3 (fun X => X.cell? ⟨Bs, 0, none⟩ = some (.int .i64 s.cap) ∧ X.cell? ⟨Bs, 1, none⟩ = some (.int .i64 s.can) ∧ X.cell? ⟨Bs, 2, none⟩ = some (.int .i64 s.sl) ∧ X.cell? ⟨Bs, 3, none⟩ = some (.int .i64 s.sh) ∧ X.cell? ⟨Bs, 4, none⟩ = some (.slice A s.ns.length cp) ∧ X.cell? ⟨Bp, 0, none⟩ = some (.slice Ac c.length cc) ∧ X.cell? ⟨Bp, 1, none⟩ = some (.slice Ak k.length ck))
        (first | go_keep | exact ⟨(cell_later hb0 cBs0_3), (cell_later hb0 cBs1_3), (cell_later hb0 cBs2_3), (cell_later hb0 cBs3_3), (cell_later hb0 cBs4_3), (cell_later hb0 cBp0_3), (cell_later hb0 cBp1_3)⟩ | exact ⟨(cell_later hb1 (cell_later hb0 cBs0_3)), (cell_later hb1 (cell_later hb0 cBs1_3)), (cell_later hb1 (cell_later hb0 cBs2_3)), (cell_later hb1 (cell_later hb0 cBs3_3)), (cell_later hb1 (cell_later hb0 cBs4_3)), (cell_later hb1 (cell_later hb0 cBp0_3)), (cell_later hb1 (cell_later hb0 cBp1_3))⟩ | exact ⟨(cell_later hb2 (cell_later hb1 (cell_later hb0 cBs0_3))), (cell_later hb2 (cell_later hb1 (cell_later hb0 cBs1_3))), (cell_later hb2 (cell_later hb1 (cell_later hb0 cBs2_3))), (cell_later hb2 (cell_later hb1 (cell_later hb0 cBs3_3))), (cell_later hb2 (cell_later hb1 (cell_later hb0 cBs4_3))), (cell_later hb2 (cell_later hb1 (cell_later hb0 cBp0_3))), (cell_later hb2 (cell_later hb1 (cell_later hb0 cBp1_3)))⟩)
        (first | (go_at_call 19; refine (store_conv s A cp w3.drew (HA.out.keep HB3.out.drew (Nat.le_refl _)) n9).mono ?_; rintro e w3_0 ⟨A2, cp2, rfl, hs2, hb0⟩; have hB0 := HB3.out.drew.trans (hb0.mono HB3.out.drew.size)) | (go_at_call 21; refine (plan_conv Ac Ak cc ck c k w3_0 n1 n2 (HC.out.keep hB0 (Nat.le_refl _)) (HK.out.keep hB0 (Nat.le_refl _)) c9 k9).mono ?_; rintro e w3_1 ⟨Ac2, Ak2, cc2, ck2, rfl, hc2, hk2, hb1⟩; have hB1 := hB0.trans (hb1.mono hB0.size); have hs3 := hs2.keep hb1 (Nat.le_refl _)) | (go_at_call 51; refine (hpp.out A2 cp2 Ac2 Ak2 cc2 ck2 w3_1 hs3 hc2 hk2).mono ?_; rintro e w4 ⟨rfl, hb2⟩; have hB2 := hB1.trans (hb2.mono hB1.size)))
      have hbR : Below w3.drew.heap.size w3.drew w4 := ((((hb0).trans (hb1.mono (hb0).size))).trans (hb2.mono (((hb0).trans (hb1.mono (hb0).size))).size))
      have HB4 := Lib.hid ((HB3.out.drew).trans (hbR.mono (HB3.out.drew).size))
      have NBs4 := Lib.hid ((hbR.block Bs (Array.getElem?_eq_some_iff.1 NBs3.out).1).trans NBs3.out)
      have NBp4 := Lib.hid ((hbR.block Bp (Array.getElem?_eq_some_iff.1 NBp3.out).1).trans NBp3.out)
      clear HB3 NBs3 NBp3 cBs0_3 cBs1_3 cBs2_3 cBs3_3 cBs4_3 cBp0_3 cBp1_3  hbR hb0 hB0 hb1 hB1 hb2 hB2 hs2 hc2 hk2 hs3 hpp
      obtain ⟨cBs0_4, cBs1_4, cBs2_4, cBs3_4, cBs4_4⟩ := cells5 NBs4.out
      obtain ⟨cBp0_4, cBp1_4⟩ := cells2 NBp4.out
      go_wp2_with fail
      refine (awake_any _).mono ?_
      rintro e w5 ⟨rfl, hb⟩
      have HB5 := Lib.hid ((HB4.out).trans (hb.mono (HB4.out).size))
      have NBs5 := Lib.hid ((hb.block Bs (Array.getElem?_eq_some_iff.1 NBs4.out).1).trans NBs4.out)
      have NBp5 := Lib.hid ((hb.block Bp (Array.getElem?_eq_some_iff.1 NBp4.out).1).trans NBp4.out)
      clear HB4 NBs4 NBp4 cBs0_4 cBs1_4 cBs2_4 cBs3_4 cBs4_4 cBp0_4 cBp1_4  hb 
      obtain ⟨cBs0_5, cBs1_5, cBs2_5, cBs3_5, cBs4_5⟩ := cells5 NBs5.out
      obtain ⟨cBp0_5, cBp1_5⟩ := cells2 NBp5.out
      go_wp2_with fail
      go_ret
      exact ⟨rfl, HB5.out⟩
    · have hdel := fun A2 cp2 A3 c3 W x1 x2 => deliver_yes s A2 cp2 A3 c3 k W x1 x2 HOK.out HWB.out hch
      obtain ⟨q1, q2, q3, q4⟩ := deliver_best HOK.out HWB.out hch
      have q5 := q4 c
      generalize bestL s (jobD k) s.ns.length 0 s.sl = l at hdel q1 q2 q3 q5
      generalize chp s (jobD k) s.ns.length 0 s.sl = N at hdel q3 q5
      have q6 := (plan_parts (prove_iff.1 q2).1).2.2.1
      have q7 := (cans_bd q6).2
      have HDEL := Lib.hid hdel
      have HLL := Lib.hid q1
      have HPR := Lib.hid q2
      have HSM := Lib.hid q3
      have HMIN := Lib.hid q5
      have HCL := Lib.hid q6
      have HBL := Lib.hid q7
      have l9 : l.length ≤ 1000 := by omega
      have l9' : l.length ≤ 1000000 := by omega
      clear hdel q1 q2 q3 q4 q5 q6 q7 hch
      go_wp2_with fail
      go_region_held3 (fun X => X.cell? ⟨Bs, 0, none⟩ = some (.int .i64 s.cap) ∧ X.cell? ⟨Bs, 1, none⟩ = some (.int .i64 s.can) ∧ X.cell? ⟨Bs, 2, none⟩ = some (.int .i64 s.sl) ∧ X.cell? ⟨Bs, 3, none⟩ = some (.int .i64 s.sh) ∧ X.cell? ⟨Bs, 4, none⟩ = some (.slice A s.ns.length cp) ∧ X.cell? ⟨Bp, 0, none⟩ = some (.slice Ac c.length cc) ∧ X.cell? ⟨Bp, 1, none⟩ = some (.slice Ak k.length ck))
        (first | go_keep | exact ⟨(cell_later hb0 cBs0_2), (cell_later hb0 cBs1_2), (cell_later hb0 cBs2_2), (cell_later hb0 cBs3_2), (cell_later hb0 cBs4_2), (cell_later hb0 cBp0_2), (cell_later hb0 cBp1_2)⟩ | exact ⟨(cell_later hb1 (cell_later hb0 cBs0_2)), (cell_later hb1 (cell_later hb0 cBs1_2)), (cell_later hb1 (cell_later hb0 cBs2_2)), (cell_later hb1 (cell_later hb0 cBs3_2)), (cell_later hb1 (cell_later hb0 cBs4_2)), (cell_later hb1 (cell_later hb0 cBp0_2)), (cell_later hb1 (cell_later hb0 cBp1_2))⟩ | exact ⟨(cell_later hb2 (cell_later hb1 (cell_later hb0 cBs0_2))), (cell_later hb2 (cell_later hb1 (cell_later hb0 cBs1_2))), (cell_later hb2 (cell_later hb1 (cell_later hb0 cBs2_2))), (cell_later hb2 (cell_later hb1 (cell_later hb0 cBs3_2))), (cell_later hb2 (cell_later hb1 (cell_later hb0 cBs4_2))), (cell_later hb2 (cell_later hb1 (cell_later hb0 cBp0_2))), (cell_later hb2 (cell_later hb1 (cell_later hb0 cBp1_2)))⟩)
        (first | (go_at_call 19; refine (store_conv s A cp w2.drew (HA.out.keep HB2.out.drew (Nat.le_refl _)) n9).mono ?_; rintro e w2_0 ⟨A2, cp2, rfl, hs2, hb0⟩; have hB0 := HB2.out.drew.trans (hb0.mono HB2.out.drew.size)) | (go_at_call 34; refine (list_some Ak ck k w2_0 n2 (HK.out.keep hB0 (Nat.le_refl _)) k9).mono ?_; rintro e w2_1 ⟨A3, c3, rfl, hl3, hn3, hb1⟩; have hB1 := hB0.trans (hb1.mono hB0.size); have hs3 := hs2.keep hb1 (Nat.le_refl _)) | (go_at_call 33; refine (HDEL.out A2 cp2 A3 c3 w2_1 hs3 hl3).mono ?_; rintro e w3 ⟨A1, c1, rfl, hl1, hn1, hb2⟩; have hB2 := hB1.trans (hb2.mono hB1.size)))
      have hbR : Below w2.drew.heap.size w2.drew w3 := ((((hb0).trans (hb1.mono (hb0).size))).trans (hb2.mono (((hb0).trans (hb1.mono (hb0).size))).size))
      have HB3 := Lib.hid ((HB2.out.drew).trans (hbR.mono (HB2.out.drew).size))
      have NBs3 := Lib.hid ((hbR.block Bs (Array.getElem?_eq_some_iff.1 NBs2.out).1).trans NBs2.out)
      have NBp3 := Lib.hid ((hbR.block Bp (Array.getElem?_eq_some_iff.1 NBp2.out).1).trans NBp2.out)
      have FL3 := Lib.hid hl1
      clear HB2 NBs2 NBp2 cBs0_2 cBs1_2 cBs2_2 cBs3_2 cBs4_2 cBp0_2 cBp1_2 hl1 hbR hb0 hB0 hb1 hB1 hb2 hB2 hs2 hl3 hn3 hs3
      obtain ⟨cBs0_3, cBs1_3, cBs2_3, cBs3_3, cBs4_3⟩ := cells5 NBs3.out
      obtain ⟨cBp0_3, cBp1_3⟩ := cells2 NBp3.out
      clear HDEL
      have hpp := Lib.hid (fun A2 cp2 Ac2 Ak2 cc2 ck2 W x1 x2 x3 => provePlan_any s A2 cp2 Ac2 Ak2 cc2 ck2 c k W n9 c9 k9 x1 x2 x3)
      obtain ⟨p, hp⟩ : ∃ p, provePlanB s c k = p := ⟨_, rfl⟩
      rw [hp] at hpp HMIN
      clear hp
      go_wp2_with fail
      go_region_held3 (fun X => X.cell? ⟨Bs, 0, none⟩ = some (.int .i64 s.cap) ∧ X.cell? ⟨Bs, 1, none⟩ = some (.int .i64 s.can) ∧ X.cell? ⟨Bs, 2, none⟩ = some (.int .i64 s.sl) ∧ X.cell? ⟨Bs, 3, none⟩ = some (.int .i64 s.sh) ∧ X.cell? ⟨Bs, 4, none⟩ = some (.slice A s.ns.length cp) ∧ X.cell? ⟨Bp, 0, none⟩ = some (.slice Ac c.length cc) ∧ X.cell? ⟨Bp, 1, none⟩ = some (.slice Ak k.length ck))
        (first | go_keep | exact ⟨(cell_later hb0 cBs0_3), (cell_later hb0 cBs1_3), (cell_later hb0 cBs2_3), (cell_later hb0 cBs3_3), (cell_later hb0 cBs4_3), (cell_later hb0 cBp0_3), (cell_later hb0 cBp1_3)⟩ | exact ⟨(cell_later hb1 (cell_later hb0 cBs0_3)), (cell_later hb1 (cell_later hb0 cBs1_3)), (cell_later hb1 (cell_later hb0 cBs2_3)), (cell_later hb1 (cell_later hb0 cBs3_3)), (cell_later hb1 (cell_later hb0 cBs4_3)), (cell_later hb1 (cell_later hb0 cBp0_3)), (cell_later hb1 (cell_later hb0 cBp1_3))⟩ | exact ⟨(cell_later hb2 (cell_later hb1 (cell_later hb0 cBs0_3))), (cell_later hb2 (cell_later hb1 (cell_later hb0 cBs1_3))), (cell_later hb2 (cell_later hb1 (cell_later hb0 cBs2_3))), (cell_later hb2 (cell_later hb1 (cell_later hb0 cBs3_3))), (cell_later hb2 (cell_later hb1 (cell_later hb0 cBs4_3))), (cell_later hb2 (cell_later hb1 (cell_later hb0 cBp0_3))), (cell_later hb2 (cell_later hb1 (cell_later hb0 cBp1_3)))⟩)
        (first | (go_at_call 19; refine (store_conv s A cp w3.drew (HA.out.keep HB3.out.drew (Nat.le_refl _)) n9).mono ?_; rintro e w3_0 ⟨A2, cp2, rfl, hs2, hb0⟩; have hB0 := HB3.out.drew.trans (hb0.mono HB3.out.drew.size)) | (go_at_call 21; refine (plan_conv Ac Ak cc ck c k w3_0 n1 n2 (HC.out.keep hB0 (Nat.le_refl _)) (HK.out.keep hB0 (Nat.le_refl _)) c9 k9).mono ?_; rintro e w3_1 ⟨Ac2, Ak2, cc2, ck2, rfl, hc2, hk2, hb1⟩; have hB1 := hB0.trans (hb1.mono hB0.size); have hs3 := hs2.keep hb1 (Nat.le_refl _)) | (go_at_call 51; refine (hpp.out A2 cp2 Ac2 Ak2 cc2 ck2 w3_1 hs3 hc2 hk2).mono ?_; rintro e w4 ⟨rfl, hb2⟩; have hB2 := hB1.trans (hb2.mono hB1.size)))
      have hbR : Below w3.drew.heap.size w3.drew w4 := ((((hb0).trans (hb1.mono (hb0).size))).trans (hb2.mono (((hb0).trans (hb1.mono (hb0).size))).size))
      have HB4 := Lib.hid ((HB3.out.drew).trans (hbR.mono (HB3.out.drew).size))
      have NBs4 := Lib.hid ((hbR.block Bs (Array.getElem?_eq_some_iff.1 NBs3.out).1).trans NBs3.out)
      have NBp4 := Lib.hid ((hbR.block Bp (Array.getElem?_eq_some_iff.1 NBp3.out).1).trans NBp3.out)
      have FL4 := Lib.hid ((FL3.out.drew).keep hbR (Nat.le_refl _))
      clear HB3 NBs3 NBp3 cBs0_3 cBs1_3 cBs2_3 cBs3_3 cBs4_3 cBp0_3 cBp1_3 FL3 hbR hb0 hB0 hb1 hB1 hb2 hB2 hs2 hc2 hk2 hs3 hpp
      obtain ⟨cBs0_4, cBs1_4, cBs2_4, cBs3_4, cBs4_4⟩ := cells5 NBs4.out
      obtain ⟨cBp0_4, cBp1_4⟩ := cells2 NBp4.out
      have hcn := Lib.hid (fun W x1 => rcans_any s A cp (.slice A1 l.length c1) l W n9 l9' x1)
      rw [HCL.out] at hcn
      have hsm := Lib.hid (fun W x1 => sum_any (.slice A1 l.length c1) l W x1 l9 HBL.out)
      rw [HSM.out] at hsm
      have hpr := Lib.hid (fun A2 cp2 Ac2 Ak2 cc2 ck2 W x1 x2 x3 => provePlan_any s A2 cp2 Ac2 Ak2 cc2 ck2 l k W n9 l9' k9 x1 x2 x3)
      rw [HPR.out] at hpr
      have hNN : (N != N) = false := by simp
      go_wp2_with fail
      go_region_held3 (fun X => X.cell? ⟨Bs, 0, none⟩ = some (.int .i64 s.cap) ∧ X.cell? ⟨Bs, 1, none⟩ = some (.int .i64 s.can) ∧ X.cell? ⟨Bs, 2, none⟩ = some (.int .i64 s.sl) ∧ X.cell? ⟨Bs, 3, none⟩ = some (.int .i64 s.sh) ∧ X.cell? ⟨Bs, 4, none⟩ = some (.slice A s.ns.length cp) ∧ X.cell? ⟨Bp, 0, none⟩ = some (.slice Ac c.length cc) ∧ X.cell? ⟨Bp, 1, none⟩ = some (.slice Ak k.length ck))
        (first | go_keep | exact ⟨(cell_later hb0 cBs0_4), (cell_later hb0 cBs1_4), (cell_later hb0 cBs2_4), (cell_later hb0 cBs3_4), (cell_later hb0 cBs4_4), (cell_later hb0 cBp0_4), (cell_later hb0 cBp1_4)⟩ | exact ⟨(cell_later hb1 (cell_later hb0 cBs0_4)), (cell_later hb1 (cell_later hb0 cBs1_4)), (cell_later hb1 (cell_later hb0 cBs2_4)), (cell_later hb1 (cell_later hb0 cBs3_4)), (cell_later hb1 (cell_later hb0 cBs4_4)), (cell_later hb1 (cell_later hb0 cBp0_4)), (cell_later hb1 (cell_later hb0 cBp1_4))⟩ | exact ⟨(cell_later hb2 (cell_later hb1 (cell_later hb0 cBs0_4))), (cell_later hb2 (cell_later hb1 (cell_later hb0 cBs1_4))), (cell_later hb2 (cell_later hb1 (cell_later hb0 cBs2_4))), (cell_later hb2 (cell_later hb1 (cell_later hb0 cBs3_4))), (cell_later hb2 (cell_later hb1 (cell_later hb0 cBs4_4))), (cell_later hb2 (cell_later hb1 (cell_later hb0 cBp0_4))), (cell_later hb2 (cell_later hb1 (cell_later hb0 cBp1_4)))⟩ | exact ⟨(cell_later hb3 (cell_later hb2 (cell_later hb1 (cell_later hb0 cBs0_4)))), (cell_later hb3 (cell_later hb2 (cell_later hb1 (cell_later hb0 cBs1_4)))), (cell_later hb3 (cell_later hb2 (cell_later hb1 (cell_later hb0 cBs2_4)))), (cell_later hb3 (cell_later hb2 (cell_later hb1 (cell_later hb0 cBs3_4)))), (cell_later hb3 (cell_later hb2 (cell_later hb1 (cell_later hb0 cBs4_4)))), (cell_later hb3 (cell_later hb2 (cell_later hb1 (cell_later hb0 cBp0_4)))), (cell_later hb3 (cell_later hb2 (cell_later hb1 (cell_later hb0 cBp1_4))))⟩ | exact ⟨(cell_later hb4 (cell_later hb3 (cell_later hb2 (cell_later hb1 (cell_later hb0 cBs0_4))))), (cell_later hb4 (cell_later hb3 (cell_later hb2 (cell_later hb1 (cell_later hb0 cBs1_4))))), (cell_later hb4 (cell_later hb3 (cell_later hb2 (cell_later hb1 (cell_later hb0 cBs2_4))))), (cell_later hb4 (cell_later hb3 (cell_later hb2 (cell_later hb1 (cell_later hb0 cBs3_4))))), (cell_later hb4 (cell_later hb3 (cell_later hb2 (cell_later hb1 (cell_later hb0 cBs4_4))))), (cell_later hb4 (cell_later hb3 (cell_later hb2 (cell_later hb1 (cell_later hb0 cBp0_4))))), (cell_later hb4 (cell_later hb3 (cell_later hb2 (cell_later hb1 (cell_later hb0 cBp1_4)))))⟩)
        (first | (go_at_call 39; refine (hcn.out w4.drew FL4.out.drew).mono ?_; rintro e v1 ⟨rfl, hb0⟩; have hB0 := HB4.out.drew.trans (hb0.mono HB4.out.drew.size); have f1 := (FL4.out.drew).keep hb0 (Nat.le_refl _)) | (go_at_call 37; refine (hsm.out v1 f1).mono ?_; rintro e _ ⟨rfl, rfl⟩) | (go_at_call 19; refine (store_conv s A cp v1 (HA.out.keep hB0 (Nat.le_refl _)) n9).mono ?_; rintro e v2 ⟨A2, cp2, rfl, hs2, hb1⟩; have hB1 := hB0.trans (hb1.mono hB0.size); have f2 := f1.keep hb1 (Nat.le_refl _)) | (go_at_call 34; refine (list_some A1 c1 l v2 hn1 f2 l9').mono ?_; rintro e v3 ⟨A3, c3, rfl, hl3, hn3, hb2⟩; have hB2 := hB1.trans (hb2.mono hB1.size); have hs3 := hs2.keep hb2 (Nat.le_refl _); have f3 := f2.keep hb2 (Nat.le_refl _)) | (go_at_call 34; refine (list_some Ak ck k v3 n2 (HK.out.keep hB2 (Nat.le_refl _)) k9).mono ?_; rintro e v4 ⟨A4, c4, rfl, hl4, hn4, hb3⟩; have hB3 := hB2.trans (hb3.mono hB2.size); have hs4 := hs3.keep hb3 (Nat.le_refl _); have hl5 := hl3.keep hb3 (Nat.le_refl _); have f4 := f3.keep hb3 (Nat.le_refl _)) | (go_at_call 51; refine (hpr.out A2 cp2 A3 A4 c3 c4 v4 hs4 hl5 hl4).mono ?_; rintro e w5 ⟨rfl, hb4⟩))
      have hbR : Below w4.drew.heap.size w4.drew w5 := ((((((((hb0).trans (hb1.mono (hb0).size))).trans (hb2.mono (((hb0).trans (hb1.mono (hb0).size))).size))).trans (hb3.mono (((((hb0).trans (hb1.mono (hb0).size))).trans (hb2.mono (((hb0).trans (hb1.mono (hb0).size))).size))).size))).trans (hb4.mono (((((((hb0).trans (hb1.mono (hb0).size))).trans (hb2.mono (((hb0).trans (hb1.mono (hb0).size))).size))).trans (hb3.mono (((((hb0).trans (hb1.mono (hb0).size))).trans (hb2.mono (((hb0).trans (hb1.mono (hb0).size))).size))).size))).size))
      have HB5 := Lib.hid ((HB4.out.drew).trans (hbR.mono (HB4.out.drew).size))
      have NBs5 := Lib.hid ((hbR.block Bs (Array.getElem?_eq_some_iff.1 NBs4.out).1).trans NBs4.out)
      have NBp5 := Lib.hid ((hbR.block Bp (Array.getElem?_eq_some_iff.1 NBp4.out).1).trans NBp4.out)
      have FL5 := Lib.hid ((FL4.out.drew).keep hbR (Nat.le_refl _))
      clear HB4 NBs4 NBp4 cBs0_4 cBs1_4 cBs2_4 cBs3_4 cBs4_4 cBp0_4 cBp1_4 FL4 hbR hb0 hb1 hb2 hb3 hb4 hB0 hB1 hB2 hB3 hs2 hs3 hs4 hl3 hl4 hl5 f1 f2 f3 f4 hn3 hn4 hcn hpr
      obtain ⟨cBs0_5, cBs1_5, cBs2_5, cBs3_5, cBs4_5⟩ := cells5 NBs5.out
      obtain ⟨cBp0_5, cBp1_5⟩ := cells2 NBp5.out
      have hsc := Lib.hid (fun W x1 => sum_any (.slice Ac c.length cc) c W x1 (by have := HLC.out; omega) (cans_bd HCB.out).2)
      obtain ⟨M, hM⟩ : ∃ M, sumL c = M := ⟨_, rfl⟩
      rw [hM] at hsc HMIN
      clear hM hsm
      go_wp2_with fail
      refine (hsc.out w5 (HC.out.keep HB5.out (Nat.le_refl _))).mono ?_
      rintro e wz ⟨rfl, rfl⟩
      clear hsc
      cases p with
      | false =>
        clear HMIN
        go_wp2_with fail
        refine (awake_any _).mono ?_
        rintro e w6 ⟨rfl, hb⟩
        have HB6 := Lib.hid ((HB5.out).trans (hb.mono (HB5.out).size))
        have NBs6 := Lib.hid ((hb.block Bs (Array.getElem?_eq_some_iff.1 NBs5.out).1).trans NBs5.out)
        have NBp6 := Lib.hid ((hb.block Bp (Array.getElem?_eq_some_iff.1 NBp5.out).1).trans NBp5.out)
        have FL6 := Lib.hid ((FL5.out).keep hb (Nat.le_refl _))
        clear HB5 NBs5 NBp5 cBs0_5 cBs1_5 cBs2_5 cBs3_5 cBs4_5 cBp0_5 cBp1_5 FL5 hb 
        obtain ⟨cBs0_6, cBs1_6, cBs2_6, cBs3_6, cBs4_6⟩ := cells5 NBs6.out
        obtain ⟨cBp0_6, cBp1_6⟩ := cells2 NBp6.out
        go_wp2_with fail
        go_ret
        exact ⟨rfl, HB6.out⟩
      | true =>
        obtain ⟨r1, r2⟩ := HMIN.out rfl
        by_cases hlt : N < M
        · have h1 : decide (M > N) = true := by simpa using hlt
          have h2 : decide (N < M) = true := by simpa using hlt
          clear r1 r2 HMIN
          go_wp2_with fail
          refine (awake_any _).mono ?_
          rintro e w6 ⟨rfl, hb⟩
          have HB6 := Lib.hid ((HB5.out).trans (hb.mono (HB5.out).size))
          have NBs6 := Lib.hid ((hb.block Bs (Array.getElem?_eq_some_iff.1 NBs5.out).1).trans NBs5.out)
          have NBp6 := Lib.hid ((hb.block Bp (Array.getElem?_eq_some_iff.1 NBp5.out).1).trans NBp5.out)
          have FL6 := Lib.hid ((FL5.out).keep hb (Nat.le_refl _))
          clear HB5 NBs5 NBp5 cBs0_5 cBs1_5 cBs2_5 cBs3_5 cBs4_5 cBp0_5 cBp1_5 FL5 hb 
          obtain ⟨cBs0_6, cBs1_6, cBs2_6, cBs3_6, cBs4_6⟩ := cells5 NBs6.out
          obtain ⟨cBp0_6, cBp1_6⟩ := cells2 NBp6.out
          go_wp2_with fail
          go_ret
          exact ⟨rfl, HB6.out⟩
        · obtain rfl : M = N := by omega
          have r3 := r2 rfl
          have h1 : decide (M > M) = false := by simp
          have h2 : decide (M < M) = false := by simp
          have h3 : (M == M) = true := by simp
          have hbf := Lib.hid (fun W x1 x2 => before_any (.slice Ac c.length cc) (.slice A1 l.length c1) c l W x1 x2 c9 l9')
          rw [r3] at hbf
          clear r1 r2 r3 hlt HMIN
          go_wp2_with fail
          refine (hbf.out w5 (HC.out.keep HB5.out (Nat.le_refl _)) FL5.out).mono ?_
          rintro e w6 ⟨rfl, hb⟩
          have HB6 := Lib.hid ((HB5.out).trans (hb.mono (HB5.out).size))
          have NBs6 := Lib.hid ((hb.block Bs (Array.getElem?_eq_some_iff.1 NBs5.out).1).trans NBs5.out)
          have NBp6 := Lib.hid ((hb.block Bp (Array.getElem?_eq_some_iff.1 NBp5.out).1).trans NBp5.out)
          have FL6 := Lib.hid ((FL5.out).keep hb (Nat.le_refl _))
          clear HB5 NBs5 NBp5 cBs0_5 cBs1_5 cBs2_5 cBs3_5 cBs4_5 cBp0_5 cBp1_5 FL5 hb 
          obtain ⟨cBs0_6, cBs1_6, cBs2_6, cBs3_6, cBs4_6⟩ := cells5 NBs6.out
          obtain ⟨cBp0_6, cBp1_6⟩ := cells2 NBp6.out
          go_wp2_with fail
          refine (awake_any _).mono ?_
          rintro e w7 ⟨rfl, hb⟩
          have HB7 := Lib.hid ((HB6.out).trans (hb.mono (HB6.out).size))
          have NBs7 := Lib.hid ((hb.block Bs (Array.getElem?_eq_some_iff.1 NBs6.out).1).trans NBs6.out)
          have NBp7 := Lib.hid ((hb.block Bp (Array.getElem?_eq_some_iff.1 NBp6.out).1).trans NBp6.out)
          have FL7 := Lib.hid ((FL6.out).keep hb (Nat.le_refl _))
          clear HB6 NBs6 NBp6 cBs0_6 cBs1_6 cBs2_6 cBs3_6 cBs4_6 cBp0_6 cBp1_6 FL6 hb 
          obtain ⟨cBs0_7, cBs1_7, cBs2_7, cBs3_7, cBs4_7⟩ := cells5 NBs7.out
          obtain ⟨cBp0_7, cBp1_7⟩ := cells2 NBp7.out
          go_wp2_with fail
          go_ret
          exact ⟨rfl, HB7.out⟩
end Go.Proofs.Ytefhdcecbmgljaa

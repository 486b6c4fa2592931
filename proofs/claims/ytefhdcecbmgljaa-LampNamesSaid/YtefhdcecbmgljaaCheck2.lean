/-
  check, truth, dipped.
-/
import Derived.Test.YtefhdcecbmgljaaCheck
set_option linter.all false
namespace Go.Proofs.Ytefhdcecbmgljaa
open Go.RowKit Go.WalkArith

theorem planL_fault {s : St} {c k : List Int} (h : faultS s ≠ 0) : planL s c k = faultS s := by unfold planL; rw [if_pos h]
theorem planL_ok {s : St} {c k : List Int} (h : faultS s = 0) : planL s c k = if cansB s c && wicksB s k then 0 else 2 := by unfold planL; rw [if_neg (by rw [h]; simp)]
theorem planL_vals (s : St) (c k : List Int) : planL s c k = 0 ∨ planL s c k = 1 ∨ planL s c k = 2 ∨ planL s c k = 3 := by
  have := faultS_cases s
  unfold planL
  split
  · omega
  · split <;> omega

set_option maxRecDepth 100000 in
set_option maxHeartbeats 2000000 in
theorem check_any (s : St) (A : Option Addr) (cp : Nat) (Ac Ak : Option Addr) (cc ck : Nat) (c k : List Int) (w : World) (hn : s.ns.length ≤ 1000000) (hcl : c.length ≤ 1000000) (hkl : k.length ≤ 1000000) (hA : NtsAt w A s.ns) (hc : IntsAt w (.slice Ac c.length cc) c) (hk : IntsAt w (.slice Ak k.length ck) k) :
    Calls Try.prog 63 #[.agg #[.int .i64 s.cap, .int .i64 s.can, .int .i64 s.sl, .int .i64 s.sh, .slice A s.ns.length cp], .agg #[.slice Ac c.length cc, .slice Ak k.length ck]] w fun e w' => e = .returned (.int .i64 (planL s c k)) ∧ Below w.heap.size w w' := by
  have HA := Lib.hid hA
  have HC := Lib.hid hc
  have HK := Lib.hid hk
  have hcs := Lib.hid (fun W hW => checkStore_any s A cp W hn hW)
  clear hA hc hk
  by_cases h0 : faultS s = 0
  · have HP := Lib.hid (planL_ok (c := c) (k := k) h0)
    rw [h0] at hcs
    clear h0
    have hB0 : Below w.heap.size w ((w.alloc (.cells #[.int .i64 s.cap, .int .i64 s.can, .int .i64 s.sl, .int .i64 s.sh, .slice A s.ns.length cp] 39)).alloc (.cells #[.slice Ac c.length cc, .slice Ak k.length ck] 44)) := ((Below.refl _ _).alloc (Nat.le_refl _) _).alloc (by simp) _
    have hn0 : ((w.alloc (.cells #[.int .i64 s.cap, .int .i64 s.can, .int .i64 s.sl, .int .i64 s.sh, .slice A s.ns.length cp] 39)).alloc (.cells #[.slice Ac c.length cc, .slice Ak k.length ck] 44)).heap[w.heap.size]? = some (.cells #[.int .i64 s.cap, .int .i64 s.can, .int .i64 s.sl, .int .i64 s.sh, .slice A s.ns.length cp] 39 (0, 0)) := (Below.heap_alloc _ _ _ (by simp <;> omega)).trans (heap_new_at _ _ _ rfl)
    have hn1 : ((w.alloc (.cells #[.int .i64 s.cap, .int .i64 s.can, .int .i64 s.sl, .int .i64 s.sh, .slice A s.ns.length cp] 39)).alloc (.cells #[.slice Ac c.length cc, .slice Ak k.length ck] 44)).heap[w.heap.size + 1]? = some (.cells #[.slice Ac c.length cc, .slice Ak k.length ck] 44 (0, 0)) := heap_new_at _ _ _ (by simp)
    have HB1 := Lib.hid hB0
    have NBs1 := Lib.hid hn0
    have NBp1 := Lib.hid hn1
    clear hB0 hn0 hn1
    go_enter Try.func63, Try.ntmps63
    go_wp2_with fail
    generalize ((w.alloc (.cells #[.int .i64 s.cap, .int .i64 s.can, .int .i64 s.sl, .int .i64 s.sh, .slice A s.ns.length cp] 39)).alloc (.cells #[.slice Ac c.length cc, .slice Ak k.length ck] 44)) = w1 at HB1 NBs1 NBp1 ⊢
    obtain ⟨Bp, hBp⟩ : ∃ Bp, w.heap.size + 1 = Bp := ⟨_, rfl⟩
    obtain ⟨Bs, hBs⟩ : ∃ Bs, w.heap.size = Bs := ⟨_, rfl⟩
    have oBp : w.heap.size ≤ Bp := by omega
    have oBsBp : Bs < Bp := by omega
    have oBs : w.heap.size ≤ Bs := by omega
    rw [hBp] at NBp1 ⊢
    rw [hBs] at NBs1 ⊢
    clear hBs hBp
    have cBs0_1 : w1.cell? ⟨Bs, 0, none⟩ = some (.int .i64 s.cap) := by simp [World.cell?, NBs1.out]
    have cBs1_1 : w1.cell? ⟨Bs, 1, none⟩ = some (.int .i64 s.can) := by simp [World.cell?, NBs1.out]
    have cBs2_1 : w1.cell? ⟨Bs, 2, none⟩ = some (.int .i64 s.sl) := by simp [World.cell?, NBs1.out]
    have cBs3_1 : w1.cell? ⟨Bs, 3, none⟩ = some (.int .i64 s.sh) := by simp [World.cell?, NBs1.out]
    have cBs4_1 : w1.cell? ⟨Bs, 4, none⟩ = some (.slice A s.ns.length cp) := by simp [World.cell?, NBs1.out]
    have cBp0_1 : w1.cell? ⟨Bp, 0, none⟩ = some (.slice Ac c.length cc) := by simp [World.cell?, NBp1.out]
    have cBp1_1 : w1.cell? ⟨Bp, 1, none⟩ = some (.slice Ak k.length ck) := by simp [World.cell?, NBp1.out]
    go_wp2_with fail
    refine (hcs.out _ (HA.out.keep HB1.out (Nat.le_refl _))).mono ?_
    rintro e w2 ⟨rfl, hb⟩
    have HB2 := Lib.hid ((HB1.out).trans (hb.mono (HB1.out).size))
    have NBs2 := Lib.hid ((hb.block Bs (Array.getElem?_eq_some_iff.1 NBs1.out).1).trans NBs1.out)
    have NBp2 := Lib.hid ((hb.block Bp (Array.getElem?_eq_some_iff.1 NBp1.out).1).trans NBp1.out)
    clear HB1 NBs1 NBp1 cBs0_1 cBs1_1 cBs2_1 cBs3_1 cBs4_1 cBp0_1 cBp1_1  hb hcs
    have cBs0_2 : w2.cell? ⟨Bs, 0, none⟩ = some (.int .i64 s.cap) := by simp [World.cell?, NBs2.out]
    have cBs1_2 : w2.cell? ⟨Bs, 1, none⟩ = some (.int .i64 s.can) := by simp [World.cell?, NBs2.out]
    have cBs2_2 : w2.cell? ⟨Bs, 2, none⟩ = some (.int .i64 s.sl) := by simp [World.cell?, NBs2.out]
    have cBs3_2 : w2.cell? ⟨Bs, 3, none⟩ = some (.int .i64 s.sh) := by simp [World.cell?, NBs2.out]
    have cBs4_2 : w2.cell? ⟨Bs, 4, none⟩ = some (.slice A s.ns.length cp) := by simp [World.cell?, NBs2.out]
    have cBp0_2 : w2.cell? ⟨Bp, 0, none⟩ = some (.slice Ac c.length cc) := by simp [World.cell?, NBp2.out]
    have cBp1_2 : w2.cell? ⟨Bp, 1, none⟩ = some (.slice Ak k.length ck) := by simp [World.cell?, NBp2.out]
    have hca := Lib.hid (cans_any s A cp _ c _ hn hcl (HC.out.keep HB2.out (Nat.le_refl _)))
    cases e1 : cansB s c with
    | false =>
      rw [e1] at hca
      have HP2 := Lib.hid (show planL s c k = 2 by rw [HP.out, e1]; rfl)
      clear e1
      go_wp2_with fail
      refine (hca.out).mono ?_
      rintro e w3 ⟨rfl, hb⟩
      have HB3 := Lib.hid ((HB2.out).trans (hb.mono (HB2.out).size))
      have NBs3 := Lib.hid ((hb.block Bs (Array.getElem?_eq_some_iff.1 NBs2.out).1).trans NBs2.out)
      have NBp3 := Lib.hid ((hb.block Bp (Array.getElem?_eq_some_iff.1 NBp2.out).1).trans NBp2.out)
      clear HB2 NBs2 NBp2 cBs0_2 cBs1_2 cBs2_2 cBs3_2 cBs4_2 cBp0_2 cBp1_2  hb hca
      have cBs0_3 : w3.cell? ⟨Bs, 0, none⟩ = some (.int .i64 s.cap) := by simp [World.cell?, NBs3.out]
      have cBs1_3 : w3.cell? ⟨Bs, 1, none⟩ = some (.int .i64 s.can) := by simp [World.cell?, NBs3.out]
      have cBs2_3 : w3.cell? ⟨Bs, 2, none⟩ = some (.int .i64 s.sl) := by simp [World.cell?, NBs3.out]
      have cBs3_3 : w3.cell? ⟨Bs, 3, none⟩ = some (.int .i64 s.sh) := by simp [World.cell?, NBs3.out]
      have cBs4_3 : w3.cell? ⟨Bs, 4, none⟩ = some (.slice A s.ns.length cp) := by simp [World.cell?, NBs3.out]
      have cBp0_3 : w3.cell? ⟨Bp, 0, none⟩ = some (.slice Ac c.length cc) := by simp [World.cell?, NBp3.out]
      have cBp1_3 : w3.cell? ⟨Bp, 1, none⟩ = some (.slice Ak k.length ck) := by simp [World.cell?, NBp3.out]
      go_wp2_with fail
      go_ret
      exact ⟨by rw [HP2.out]; rfl, HB3.out⟩
    | true =>
      rw [e1] at hca
      have HP2 := Lib.hid (show planL s c k = if wicksB s k then 0 else 2 by rw [HP.out, e1]; rfl)
      clear e1
      go_wp2_with fail
      refine (hca.out).mono ?_
      rintro e w3 ⟨rfl, hb⟩
      have HB3 := Lib.hid ((HB2.out).trans (hb.mono (HB2.out).size))
      have NBs3 := Lib.hid ((hb.block Bs (Array.getElem?_eq_some_iff.1 NBs2.out).1).trans NBs2.out)
      have NBp3 := Lib.hid ((hb.block Bp (Array.getElem?_eq_some_iff.1 NBp2.out).1).trans NBp2.out)
      clear HB2 NBs2 NBp2 cBs0_2 cBs1_2 cBs2_2 cBs3_2 cBs4_2 cBp0_2 cBp1_2  hb hca
      have cBs0_3 : w3.cell? ⟨Bs, 0, none⟩ = some (.int .i64 s.cap) := by simp [World.cell?, NBs3.out]
      have cBs1_3 : w3.cell? ⟨Bs, 1, none⟩ = some (.int .i64 s.can) := by simp [World.cell?, NBs3.out]
      have cBs2_3 : w3.cell? ⟨Bs, 2, none⟩ = some (.int .i64 s.sl) := by simp [World.cell?, NBs3.out]
      have cBs3_3 : w3.cell? ⟨Bs, 3, none⟩ = some (.int .i64 s.sh) := by simp [World.cell?, NBs3.out]
      have cBs4_3 : w3.cell? ⟨Bs, 4, none⟩ = some (.slice A s.ns.length cp) := by simp [World.cell?, NBs3.out]
      have cBp0_3 : w3.cell? ⟨Bp, 0, none⟩ = some (.slice Ac c.length cc) := by simp [World.cell?, NBp3.out]
      have cBp1_3 : w3.cell? ⟨Bp, 1, none⟩ = some (.slice Ak k.length ck) := by simp [World.cell?, NBp3.out]
      have hwi := Lib.hid (wicks_any s A cp _ k _ hn (HA.out.keep HB3.out (Nat.le_refl _)) (HK.out.keep HB3.out (Nat.le_refl _)))
      cases e2 : wicksB s k with
      | false =>
        rw [e2] at hwi
        have HP3 := Lib.hid (show planL s c k = 2 by rw [HP2.out, e2]; rfl)
        clear e2
        go_wp2_with fail
        refine (hwi.out).mono ?_
        rintro e w4 ⟨rfl, hb⟩
        have HB4 := Lib.hid ((HB3.out).trans (hb.mono (HB3.out).size))
        have NBs4 := Lib.hid ((hb.block Bs (Array.getElem?_eq_some_iff.1 NBs3.out).1).trans NBs3.out)
        have NBp4 := Lib.hid ((hb.block Bp (Array.getElem?_eq_some_iff.1 NBp3.out).1).trans NBp3.out)
        clear HB3 NBs3 NBp3 cBs0_3 cBs1_3 cBs2_3 cBs3_3 cBs4_3 cBp0_3 cBp1_3  hb hwi
        have cBs0_4 : w4.cell? ⟨Bs, 0, none⟩ = some (.int .i64 s.cap) := by simp [World.cell?, NBs4.out]
        have cBs1_4 : w4.cell? ⟨Bs, 1, none⟩ = some (.int .i64 s.can) := by simp [World.cell?, NBs4.out]
        have cBs2_4 : w4.cell? ⟨Bs, 2, none⟩ = some (.int .i64 s.sl) := by simp [World.cell?, NBs4.out]
        have cBs3_4 : w4.cell? ⟨Bs, 3, none⟩ = some (.int .i64 s.sh) := by simp [World.cell?, NBs4.out]
        have cBs4_4 : w4.cell? ⟨Bs, 4, none⟩ = some (.slice A s.ns.length cp) := by simp [World.cell?, NBs4.out]
        have cBp0_4 : w4.cell? ⟨Bp, 0, none⟩ = some (.slice Ac c.length cc) := by simp [World.cell?, NBp4.out]
        have cBp1_4 : w4.cell? ⟨Bp, 1, none⟩ = some (.slice Ak k.length ck) := by simp [World.cell?, NBp4.out]
        go_wp2_with fail
        go_ret
        exact ⟨by rw [HP3.out]; rfl, HB4.out⟩
      | true =>
        rw [e2] at hwi
        have HP3 := Lib.hid (show planL s c k = 0 by rw [HP2.out, e2]; rfl)
        clear e2
        go_wp2_with fail
        refine (hwi.out).mono ?_
        rintro e w4 ⟨rfl, hb⟩
        have HB4 := Lib.hid ((HB3.out).trans (hb.mono (HB3.out).size))
        have NBs4 := Lib.hid ((hb.block Bs (Array.getElem?_eq_some_iff.1 NBs3.out).1).trans NBs3.out)
        have NBp4 := Lib.hid ((hb.block Bp (Array.getElem?_eq_some_iff.1 NBp3.out).1).trans NBp3.out)
        clear HB3 NBs3 NBp3 cBs0_3 cBs1_3 cBs2_3 cBs3_3 cBs4_3 cBp0_3 cBp1_3  hb hwi
        have cBs0_4 : w4.cell? ⟨Bs, 0, none⟩ = some (.int .i64 s.cap) := by simp [World.cell?, NBs4.out]
        have cBs1_4 : w4.cell? ⟨Bs, 1, none⟩ = some (.int .i64 s.can) := by simp [World.cell?, NBs4.out]
        have cBs2_4 : w4.cell? ⟨Bs, 2, none⟩ = some (.int .i64 s.sl) := by simp [World.cell?, NBs4.out]
        have cBs3_4 : w4.cell? ⟨Bs, 3, none⟩ = some (.int .i64 s.sh) := by simp [World.cell?, NBs4.out]
        have cBs4_4 : w4.cell? ⟨Bs, 4, none⟩ = some (.slice A s.ns.length cp) := by simp [World.cell?, NBs4.out]
        have cBp0_4 : w4.cell? ⟨Bp, 0, none⟩ = some (.slice Ac c.length cc) := by simp [World.cell?, NBp4.out]
        have cBp1_4 : w4.cell? ⟨Bp, 1, none⟩ = some (.slice Ak k.length ck) := by simp [World.cell?, NBp4.out]
        go_wp2_with fail
        go_ret
        exact ⟨by rw [HP3.out]; rfl, HB4.out⟩
  · have HP := Lib.hid (planL_fault (c := c) (k := k) h0)
    obtain ⟨Q, hQ⟩ : ∃ Q, faultS s = Q := ⟨_, rfl⟩
    rw [hQ] at hcs h0 HP
    have hne : (Q != 0) = true := by simpa using h0
    clear hQ h0
    have hB0 : Below w.heap.size w ((w.alloc (.cells #[.int .i64 s.cap, .int .i64 s.can, .int .i64 s.sl, .int .i64 s.sh, .slice A s.ns.length cp] 39)).alloc (.cells #[.slice Ac c.length cc, .slice Ak k.length ck] 44)) := ((Below.refl _ _).alloc (Nat.le_refl _) _).alloc (by simp) _
    have hn0 : ((w.alloc (.cells #[.int .i64 s.cap, .int .i64 s.can, .int .i64 s.sl, .int .i64 s.sh, .slice A s.ns.length cp] 39)).alloc (.cells #[.slice Ac c.length cc, .slice Ak k.length ck] 44)).heap[w.heap.size]? = some (.cells #[.int .i64 s.cap, .int .i64 s.can, .int .i64 s.sl, .int .i64 s.sh, .slice A s.ns.length cp] 39 (0, 0)) := (Below.heap_alloc _ _ _ (by simp <;> omega)).trans (heap_new_at _ _ _ rfl)
    have hn1 : ((w.alloc (.cells #[.int .i64 s.cap, .int .i64 s.can, .int .i64 s.sl, .int .i64 s.sh, .slice A s.ns.length cp] 39)).alloc (.cells #[.slice Ac c.length cc, .slice Ak k.length ck] 44)).heap[w.heap.size + 1]? = some (.cells #[.slice Ac c.length cc, .slice Ak k.length ck] 44 (0, 0)) := heap_new_at _ _ _ (by simp)
    have HB1 := Lib.hid hB0
    have NBs1 := Lib.hid hn0
    have NBp1 := Lib.hid hn1
    clear hB0 hn0 hn1
    go_enter Try.func63, Try.ntmps63
    go_wp2_with fail
    generalize ((w.alloc (.cells #[.int .i64 s.cap, .int .i64 s.can, .int .i64 s.sl, .int .i64 s.sh, .slice A s.ns.length cp] 39)).alloc (.cells #[.slice Ac c.length cc, .slice Ak k.length ck] 44)) = w1 at HB1 NBs1 NBp1 ⊢
    obtain ⟨Bp, hBp⟩ : ∃ Bp, w.heap.size + 1 = Bp := ⟨_, rfl⟩
    obtain ⟨Bs, hBs⟩ : ∃ Bs, w.heap.size = Bs := ⟨_, rfl⟩
    have oBp : w.heap.size ≤ Bp := by omega
    have oBsBp : Bs < Bp := by omega
    have oBs : w.heap.size ≤ Bs := by omega
    rw [hBp] at NBp1 ⊢
    rw [hBs] at NBs1 ⊢
    clear hBs hBp
    have cBs0_1 : w1.cell? ⟨Bs, 0, none⟩ = some (.int .i64 s.cap) := by simp [World.cell?, NBs1.out]
    have cBs1_1 : w1.cell? ⟨Bs, 1, none⟩ = some (.int .i64 s.can) := by simp [World.cell?, NBs1.out]
    have cBs2_1 : w1.cell? ⟨Bs, 2, none⟩ = some (.int .i64 s.sl) := by simp [World.cell?, NBs1.out]
    have cBs3_1 : w1.cell? ⟨Bs, 3, none⟩ = some (.int .i64 s.sh) := by simp [World.cell?, NBs1.out]
    have cBs4_1 : w1.cell? ⟨Bs, 4, none⟩ = some (.slice A s.ns.length cp) := by simp [World.cell?, NBs1.out]
    have cBp0_1 : w1.cell? ⟨Bp, 0, none⟩ = some (.slice Ac c.length cc) := by simp [World.cell?, NBp1.out]
    have cBp1_1 : w1.cell? ⟨Bp, 1, none⟩ = some (.slice Ak k.length ck) := by simp [World.cell?, NBp1.out]
    go_wp2_with fail
    refine (hcs.out _ (HA.out.keep HB1.out (Nat.le_refl _))).mono ?_
    rintro e w2 ⟨rfl, hb⟩
    have HB2 := Lib.hid ((HB1.out).trans (hb.mono (HB1.out).size))
    have NBs2 := Lib.hid ((hb.block Bs (Array.getElem?_eq_some_iff.1 NBs1.out).1).trans NBs1.out)
    have NBp2 := Lib.hid ((hb.block Bp (Array.getElem?_eq_some_iff.1 NBp1.out).1).trans NBp1.out)
    clear HB1 NBs1 NBp1 cBs0_1 cBs1_1 cBs2_1 cBs3_1 cBs4_1 cBp0_1 cBp1_1  hb hcs
    have cBs0_2 : w2.cell? ⟨Bs, 0, none⟩ = some (.int .i64 s.cap) := by simp [World.cell?, NBs2.out]
    have cBs1_2 : w2.cell? ⟨Bs, 1, none⟩ = some (.int .i64 s.can) := by simp [World.cell?, NBs2.out]
    have cBs2_2 : w2.cell? ⟨Bs, 2, none⟩ = some (.int .i64 s.sl) := by simp [World.cell?, NBs2.out]
    have cBs3_2 : w2.cell? ⟨Bs, 3, none⟩ = some (.int .i64 s.sh) := by simp [World.cell?, NBs2.out]
    have cBs4_2 : w2.cell? ⟨Bs, 4, none⟩ = some (.slice A s.ns.length cp) := by simp [World.cell?, NBs2.out]
    have cBp0_2 : w2.cell? ⟨Bp, 0, none⟩ = some (.slice Ac c.length cc) := by simp [World.cell?, NBp2.out]
    have cBp1_2 : w2.cell? ⟨Bp, 1, none⟩ = some (.slice Ak k.length ck) := by simp [World.cell?, NBp2.out]
    go_wp2_with fail
    go_ret
    exact ⟨by rw [HP.out]; rfl, HB2.out⟩

set_option maxRecDepth 100000 in
set_option maxHeartbeats 2000000 in
theorem dipped_any (s : St) (A : Option Addr) (cp : Nat) (Ac Ak : Option Addr) (cc ck : Nat) (c k : List Int) (Ad : Option Addr) (cd : Nat) (dips : List Dp) (w : World) (hn : s.ns.length ≤ 1000000) (hcl : c.length ≤ 1000000) (hkl : k.length ≤ 1000000) (hdl : dips.length ≤ 1000000) (hA : NtsAt w A s.ns) (hc : IntsAt w (.slice Ac c.length cc) c) (hk : IntsAt w (.slice Ak k.length ck) k) (hd : DpsAt w Ad dips) :
    Calls Try.prog 71 #[.agg #[.int .i64 s.cap, .int .i64 s.can, .int .i64 s.sl, .int .i64 s.sh, .slice A s.ns.length cp], .agg #[.slice Ac c.length cc, .slice Ak k.length ck], .slice Ad dips.length cd] w fun e w' => e = .returned (.int .i64 (dippedL s c k dips)) ∧ Below w.heap.size w w' := by
  have HA := Lib.hid hA
  have HC := Lib.hid hc
  have HK := Lib.hid hk
  have HD := Lib.hid hd
  have hcs := Lib.hid (fun W h1 h2 h3 => check_any s A cp Ac Ak cc ck c k W hn hcl hkl h1 h2 h3)
  clear hA hc hk hd
  by_cases h0 : planL s c k = 0
  · have HP := Lib.hid (show dippedL s c k dips = dipsL s dips by unfold dippedL; rw [if_neg (by rw [h0]; simp)])
    rw [h0] at hcs
    clear h0
    have hB0 : Below w.heap.size w ((w.alloc (.cells #[.int .i64 s.cap, .int .i64 s.can, .int .i64 s.sl, .int .i64 s.sh, .slice A s.ns.length cp] 39)).alloc (.cells #[.slice Ac c.length cc, .slice Ak k.length ck] 44)) := ((Below.refl _ _).alloc (Nat.le_refl _) _).alloc (by simp) _
    have hn0 : ((w.alloc (.cells #[.int .i64 s.cap, .int .i64 s.can, .int .i64 s.sl, .int .i64 s.sh, .slice A s.ns.length cp] 39)).alloc (.cells #[.slice Ac c.length cc, .slice Ak k.length ck] 44)).heap[w.heap.size]? = some (.cells #[.int .i64 s.cap, .int .i64 s.can, .int .i64 s.sl, .int .i64 s.sh, .slice A s.ns.length cp] 39 (0, 0)) := (Below.heap_alloc _ _ _ (by simp <;> omega)).trans (heap_new_at _ _ _ rfl)
    have hn1 : ((w.alloc (.cells #[.int .i64 s.cap, .int .i64 s.can, .int .i64 s.sl, .int .i64 s.sh, .slice A s.ns.length cp] 39)).alloc (.cells #[.slice Ac c.length cc, .slice Ak k.length ck] 44)).heap[w.heap.size + 1]? = some (.cells #[.slice Ac c.length cc, .slice Ak k.length ck] 44 (0, 0)) := heap_new_at _ _ _ (by simp)
    have HB1 := Lib.hid hB0
    have NBs1 := Lib.hid hn0
    have NBp1 := Lib.hid hn1
    clear hB0 hn0 hn1
    go_enter Try.func71, Try.ntmps71
    go_wp2_with fail
    generalize ((w.alloc (.cells #[.int .i64 s.cap, .int .i64 s.can, .int .i64 s.sl, .int .i64 s.sh, .slice A s.ns.length cp] 39)).alloc (.cells #[.slice Ac c.length cc, .slice Ak k.length ck] 44)) = w1 at HB1 NBs1 NBp1 ⊢
    obtain ⟨Bp, hBp⟩ : ∃ Bp, w.heap.size + 1 = Bp := ⟨_, rfl⟩
    obtain ⟨Bs, hBs⟩ : ∃ Bs, w.heap.size = Bs := ⟨_, rfl⟩
    have oBp : w.heap.size ≤ Bp := by omega
    have oBsBp : Bs < Bp := by omega
    have oBs : w.heap.size ≤ Bs := by omega
    rw [hBp] at NBp1 ⊢
    rw [hBs] at NBs1 ⊢
    clear hBs hBp
    have cBs0_1 : w1.cell? ⟨Bs, 0, none⟩ = some (.int .i64 s.cap) := by simp [World.cell?, NBs1.out]
    have cBs1_1 : w1.cell? ⟨Bs, 1, none⟩ = some (.int .i64 s.can) := by simp [World.cell?, NBs1.out]
    have cBs2_1 : w1.cell? ⟨Bs, 2, none⟩ = some (.int .i64 s.sl) := by simp [World.cell?, NBs1.out]
    have cBs3_1 : w1.cell? ⟨Bs, 3, none⟩ = some (.int .i64 s.sh) := by simp [World.cell?, NBs1.out]
    have cBs4_1 : w1.cell? ⟨Bs, 4, none⟩ = some (.slice A s.ns.length cp) := by simp [World.cell?, NBs1.out]
    have cBp0_1 : w1.cell? ⟨Bp, 0, none⟩ = some (.slice Ac c.length cc) := by simp [World.cell?, NBp1.out]
    have cBp1_1 : w1.cell? ⟨Bp, 1, none⟩ = some (.slice Ak k.length ck) := by simp [World.cell?, NBp1.out]
    go_wp2_with fail
    refine (hcs.out _ (HA.out.keep HB1.out (Nat.le_refl _)) (HC.out.keep HB1.out (Nat.le_refl _)) (HK.out.keep HB1.out (Nat.le_refl _))).mono ?_
    rintro e w2 ⟨rfl, hb⟩
    have HB2 := Lib.hid ((HB1.out).trans (hb.mono (HB1.out).size))
    have NBs2 := Lib.hid ((hb.block Bs (Array.getElem?_eq_some_iff.1 NBs1.out).1).trans NBs1.out)
    have NBp2 := Lib.hid ((hb.block Bp (Array.getElem?_eq_some_iff.1 NBp1.out).1).trans NBp1.out)
    clear HB1 NBs1 NBp1 cBs0_1 cBs1_1 cBs2_1 cBs3_1 cBs4_1 cBp0_1 cBp1_1  hb hcs
    have cBs0_2 : w2.cell? ⟨Bs, 0, none⟩ = some (.int .i64 s.cap) := by simp [World.cell?, NBs2.out]
    have cBs1_2 : w2.cell? ⟨Bs, 1, none⟩ = some (.int .i64 s.can) := by simp [World.cell?, NBs2.out]
    have cBs2_2 : w2.cell? ⟨Bs, 2, none⟩ = some (.int .i64 s.sl) := by simp [World.cell?, NBs2.out]
    have cBs3_2 : w2.cell? ⟨Bs, 3, none⟩ = some (.int .i64 s.sh) := by simp [World.cell?, NBs2.out]
    have cBs4_2 : w2.cell? ⟨Bs, 4, none⟩ = some (.slice A s.ns.length cp) := by simp [World.cell?, NBs2.out]
    have cBp0_2 : w2.cell? ⟨Bp, 0, none⟩ = some (.slice Ac c.length cc) := by simp [World.cell?, NBp2.out]
    have cBp1_2 : w2.cell? ⟨Bp, 1, none⟩ = some (.slice Ak k.length ck) := by simp [World.cell?, NBp2.out]
    by_cases h6 : 6 < dips.length
    · have HP2 := Lib.hid (show dippedL s c k dips = 3 by rw [HP.out]; unfold dipsL; rw [if_pos h6])
      go_wp2_with fail
      go_ret
      exact ⟨by rw [HP2.out]; rfl, HB2.out⟩
    · have HP2 := Lib.hid (show dippedL s c k dips = if dips.all (dipB s) then 0 else 2 by rw [HP.out]; unfold dipsL; rw [if_neg h6])
      have hal := Lib.hid (allDp_any s A cp Ad cd dips _ hn hdl (HD.out.keep HB2.out (Nat.le_refl _)))
      obtain ⟨q, hq⟩ : ∃ q, dips.all (dipB s) = q := ⟨_, rfl⟩
      rw [hq] at hal HP2
      clear hq
      cases q with
      | false =>
        go_wp2_with fail
        refine (hal.out).mono ?_
        rintro e w3 ⟨rfl, hb⟩
        have HB3 := Lib.hid ((HB2.out).trans (hb.mono (HB2.out).size))
        have NBs3 := Lib.hid ((hb.block Bs (Array.getElem?_eq_some_iff.1 NBs2.out).1).trans NBs2.out)
        have NBp3 := Lib.hid ((hb.block Bp (Array.getElem?_eq_some_iff.1 NBp2.out).1).trans NBp2.out)
        clear HB2 NBs2 NBp2 cBs0_2 cBs1_2 cBs2_2 cBs3_2 cBs4_2 cBp0_2 cBp1_2  hb hal
        have cBs0_3 : w3.cell? ⟨Bs, 0, none⟩ = some (.int .i64 s.cap) := by simp [World.cell?, NBs3.out]
        have cBs1_3 : w3.cell? ⟨Bs, 1, none⟩ = some (.int .i64 s.can) := by simp [World.cell?, NBs3.out]
        have cBs2_3 : w3.cell? ⟨Bs, 2, none⟩ = some (.int .i64 s.sl) := by simp [World.cell?, NBs3.out]
        have cBs3_3 : w3.cell? ⟨Bs, 3, none⟩ = some (.int .i64 s.sh) := by simp [World.cell?, NBs3.out]
        have cBs4_3 : w3.cell? ⟨Bs, 4, none⟩ = some (.slice A s.ns.length cp) := by simp [World.cell?, NBs3.out]
        have cBp0_3 : w3.cell? ⟨Bp, 0, none⟩ = some (.slice Ac c.length cc) := by simp [World.cell?, NBp3.out]
        have cBp1_3 : w3.cell? ⟨Bp, 1, none⟩ = some (.slice Ak k.length ck) := by simp [World.cell?, NBp3.out]
        go_wp2_with fail
        go_ret
        exact ⟨by rw [HP2.out]; rfl, HB3.out⟩
      | true =>
        go_wp2_with fail
        refine (hal.out).mono ?_
        rintro e w3 ⟨rfl, hb⟩
        have HB3 := Lib.hid ((HB2.out).trans (hb.mono (HB2.out).size))
        have NBs3 := Lib.hid ((hb.block Bs (Array.getElem?_eq_some_iff.1 NBs2.out).1).trans NBs2.out)
        have NBp3 := Lib.hid ((hb.block Bp (Array.getElem?_eq_some_iff.1 NBp2.out).1).trans NBp2.out)
        clear HB2 NBs2 NBp2 cBs0_2 cBs1_2 cBs2_2 cBs3_2 cBs4_2 cBp0_2 cBp1_2  hb hal
        have cBs0_3 : w3.cell? ⟨Bs, 0, none⟩ = some (.int .i64 s.cap) := by simp [World.cell?, NBs3.out]
        have cBs1_3 : w3.cell? ⟨Bs, 1, none⟩ = some (.int .i64 s.can) := by simp [World.cell?, NBs3.out]
        have cBs2_3 : w3.cell? ⟨Bs, 2, none⟩ = some (.int .i64 s.sl) := by simp [World.cell?, NBs3.out]
        have cBs3_3 : w3.cell? ⟨Bs, 3, none⟩ = some (.int .i64 s.sh) := by simp [World.cell?, NBs3.out]
        have cBs4_3 : w3.cell? ⟨Bs, 4, none⟩ = some (.slice A s.ns.length cp) := by simp [World.cell?, NBs3.out]
        have cBp0_3 : w3.cell? ⟨Bp, 0, none⟩ = some (.slice Ac c.length cc) := by simp [World.cell?, NBp3.out]
        have cBp1_3 : w3.cell? ⟨Bp, 1, none⟩ = some (.slice Ak k.length ck) := by simp [World.cell?, NBp3.out]
        go_wp2_with fail
        go_ret
        exact ⟨by rw [HP2.out]; rfl, HB3.out⟩
  · have HP := Lib.hid (show dippedL s c k dips = planL s c k by unfold dippedL; rw [if_pos h0])
    obtain ⟨Q, hQ⟩ : ∃ Q, planL s c k = Q := ⟨_, rfl⟩
    rw [hQ] at hcs h0 HP
    have hne : (Q != 0) = true := by simpa using h0
    clear hQ h0
    have hB0 : Below w.heap.size w ((w.alloc (.cells #[.int .i64 s.cap, .int .i64 s.can, .int .i64 s.sl, .int .i64 s.sh, .slice A s.ns.length cp] 39)).alloc (.cells #[.slice Ac c.length cc, .slice Ak k.length ck] 44)) := ((Below.refl _ _).alloc (Nat.le_refl _) _).alloc (by simp) _
    have hn0 : ((w.alloc (.cells #[.int .i64 s.cap, .int .i64 s.can, .int .i64 s.sl, .int .i64 s.sh, .slice A s.ns.length cp] 39)).alloc (.cells #[.slice Ac c.length cc, .slice Ak k.length ck] 44)).heap[w.heap.size]? = some (.cells #[.int .i64 s.cap, .int .i64 s.can, .int .i64 s.sl, .int .i64 s.sh, .slice A s.ns.length cp] 39 (0, 0)) := (Below.heap_alloc _ _ _ (by simp <;> omega)).trans (heap_new_at _ _ _ rfl)
    have hn1 : ((w.alloc (.cells #[.int .i64 s.cap, .int .i64 s.can, .int .i64 s.sl, .int .i64 s.sh, .slice A s.ns.length cp] 39)).alloc (.cells #[.slice Ac c.length cc, .slice Ak k.length ck] 44)).heap[w.heap.size + 1]? = some (.cells #[.slice Ac c.length cc, .slice Ak k.length ck] 44 (0, 0)) := heap_new_at _ _ _ (by simp)
    have HB1 := Lib.hid hB0
    have NBs1 := Lib.hid hn0
    have NBp1 := Lib.hid hn1
    clear hB0 hn0 hn1
    go_enter Try.func71, Try.ntmps71
    go_wp2_with fail
    generalize ((w.alloc (.cells #[.int .i64 s.cap, .int .i64 s.can, .int .i64 s.sl, .int .i64 s.sh, .slice A s.ns.length cp] 39)).alloc (.cells #[.slice Ac c.length cc, .slice Ak k.length ck] 44)) = w1 at HB1 NBs1 NBp1 ⊢
    obtain ⟨Bp, hBp⟩ : ∃ Bp, w.heap.size + 1 = Bp := ⟨_, rfl⟩
    obtain ⟨Bs, hBs⟩ : ∃ Bs, w.heap.size = Bs := ⟨_, rfl⟩
    have oBp : w.heap.size ≤ Bp := by omega
    have oBsBp : Bs < Bp := by omega
    have oBs : w.heap.size ≤ Bs := by omega
    rw [hBp] at NBp1 ⊢
    rw [hBs] at NBs1 ⊢
    clear hBs hBp
    have cBs0_1 : w1.cell? ⟨Bs, 0, none⟩ = some (.int .i64 s.cap) := by simp [World.cell?, NBs1.out]
    have cBs1_1 : w1.cell? ⟨Bs, 1, none⟩ = some (.int .i64 s.can) := by simp [World.cell?, NBs1.out]
    have cBs2_1 : w1.cell? ⟨Bs, 2, none⟩ = some (.int .i64 s.sl) := by simp [World.cell?, NBs1.out]
    have cBs3_1 : w1.cell? ⟨Bs, 3, none⟩ = some (.int .i64 s.sh) := by simp [World.cell?, NBs1.out]
    have cBs4_1 : w1.cell? ⟨Bs, 4, none⟩ = some (.slice A s.ns.length cp) := by simp [World.cell?, NBs1.out]
    have cBp0_1 : w1.cell? ⟨Bp, 0, none⟩ = some (.slice Ac c.length cc) := by simp [World.cell?, NBp1.out]
    have cBp1_1 : w1.cell? ⟨Bp, 1, none⟩ = some (.slice Ak k.length ck) := by simp [World.cell?, NBp1.out]
    go_wp2_with fail
    refine (hcs.out _ (HA.out.keep HB1.out (Nat.le_refl _)) (HC.out.keep HB1.out (Nat.le_refl _)) (HK.out.keep HB1.out (Nat.le_refl _))).mono ?_
    rintro e w2 ⟨rfl, hb⟩
    have HB2 := Lib.hid ((HB1.out).trans (hb.mono (HB1.out).size))
    have NBs2 := Lib.hid ((hb.block Bs (Array.getElem?_eq_some_iff.1 NBs1.out).1).trans NBs1.out)
    have NBp2 := Lib.hid ((hb.block Bp (Array.getElem?_eq_some_iff.1 NBp1.out).1).trans NBp1.out)
    clear HB1 NBs1 NBp1 cBs0_1 cBs1_1 cBs2_1 cBs3_1 cBs4_1 cBp0_1 cBp1_1  hb hcs
    have cBs0_2 : w2.cell? ⟨Bs, 0, none⟩ = some (.int .i64 s.cap) := by simp [World.cell?, NBs2.out]
    have cBs1_2 : w2.cell? ⟨Bs, 1, none⟩ = some (.int .i64 s.can) := by simp [World.cell?, NBs2.out]
    have cBs2_2 : w2.cell? ⟨Bs, 2, none⟩ = some (.int .i64 s.sl) := by simp [World.cell?, NBs2.out]
    have cBs3_2 : w2.cell? ⟨Bs, 3, none⟩ = some (.int .i64 s.sh) := by simp [World.cell?, NBs2.out]
    have cBs4_2 : w2.cell? ⟨Bs, 4, none⟩ = some (.slice A s.ns.length cp) := by simp [World.cell?, NBs2.out]
    have cBp0_2 : w2.cell? ⟨Bp, 0, none⟩ = some (.slice Ac c.length cc) := by simp [World.cell?, NBp2.out]
    have cBp1_2 : w2.cell? ⟨Bp, 1, none⟩ = some (.slice Ak k.length ck) := by simp [World.cell?, NBp2.out]
    go_wp2_with fail
    go_ret
    exact ⟨by rw [HP.out]; rfl, HB2.out⟩

def TRel (s : St) (bs : List Int) (w : World) (Bs Bt : Nat) (o o2 : Obj) (i : Value) (wr : World) : Prop :=
  ∃ k : Nat, k ≤ s.ns.length ∧ i = .int .i64 k ∧ (∀ j, j < k → inB (atL bs j) (ntAt s j).lo (ntAt s j).hi = true) ∧ wr.heap[Bs]? = some o ∧ wr.heap[Bt]? = some o2 ∧ Below w.heap.size w wr
theorem truth_no {s : St} {t : Int} {bs : List Int} {k : Nat} (hk : k < s.ns.length) (h : inB (atL bs k) (ntAt s k).lo (ntAt s k).hi = false) : truthB s t bs = false := by
  cases e : truthB s t bs with
  | false => rfl
  | true => have := (truthB_true.1 e).2.bb k hk; rw [inB_false] at h; omega
theorem truth_yes {s : St} {t : Int} {bs : List Int} (hl : bs.length = s.ns.length) (ht : inB t s.sl s.sh = true) (h : ∀ j, j < s.ns.length → inB (atL bs j) (ntAt s j).lo (ntAt s j).hi = true) : truthB s t bs = true :=
  truthB_true.2 ⟨hl, (inB_true.1 ht).1, (inB_true.1 ht).2, fun i hi => inB_true.1 (h i hi)⟩

set_option maxRecDepth 100000 in
set_option maxHeartbeats 4000000 in
theorem truth_any (s : St) (A : Option Addr) (cp : Nat) (t : Int) (Ab : Option Addr) (cb : Nat) (bs : List Int) (w : World) (hn : s.ns.length ≤ 1000000) (hbl : bs.length ≤ 1000000) (hA : NtsAt w A s.ns) (hv : IntsAt w (.slice Ab bs.length cb) bs) :
    Calls Try.prog 64 #[.agg #[.int .i64 s.cap, .int .i64 s.can, .int .i64 s.sl, .int .i64 s.sh, .slice A s.ns.length cp], .agg #[.int .i64 t, .slice Ab bs.length cb]] w fun e w' => e = .returned (.bool (truthB s t bs)) ∧ Below w.heap.size w w' := by
  have HA := Lib.hid hA
  have HV := Lib.hid hv
  have hha := Lib.hid (fun W => has_any s.sl s.sh t W)
  clear hA hv
  cases e1 : inB t s.sl s.sh with
  | false =>
    have HF := Lib.hid (show truthB s t bs = false by unfold truthB; rw [e1]; simp)
    rw [e1] at hha
    clear e1
    have hB0 : Below w.heap.size w ((w.alloc (.cells #[.int .i64 s.cap, .int .i64 s.can, .int .i64 s.sl, .int .i64 s.sh, .slice A s.ns.length cp] 39)).alloc (.cells #[.int .i64 t, .slice Ab bs.length cb] 46)) := ((Below.refl _ _).alloc (Nat.le_refl _) _).alloc (by simp) _
    have hn0 : ((w.alloc (.cells #[.int .i64 s.cap, .int .i64 s.can, .int .i64 s.sl, .int .i64 s.sh, .slice A s.ns.length cp] 39)).alloc (.cells #[.int .i64 t, .slice Ab bs.length cb] 46)).heap[w.heap.size]? = some (.cells #[.int .i64 s.cap, .int .i64 s.can, .int .i64 s.sl, .int .i64 s.sh, .slice A s.ns.length cp] 39 (0, 0)) := (Below.heap_alloc _ _ _ (by simp <;> omega)).trans (heap_new_at _ _ _ rfl)
    have hn1 : ((w.alloc (.cells #[.int .i64 s.cap, .int .i64 s.can, .int .i64 s.sl, .int .i64 s.sh, .slice A s.ns.length cp] 39)).alloc (.cells #[.int .i64 t, .slice Ab bs.length cb] 46)).heap[w.heap.size + 1]? = some (.cells #[.int .i64 t, .slice Ab bs.length cb] 46 (0, 0)) := heap_new_at _ _ _ (by simp)
    have HB1 := Lib.hid hB0
    have NBs1 := Lib.hid hn0
    have NBt1 := Lib.hid hn1
    clear hB0 hn0 hn1
    go_enter Try.func64, Try.ntmps64
    go_wp2_with fail
    generalize ((w.alloc (.cells #[.int .i64 s.cap, .int .i64 s.can, .int .i64 s.sl, .int .i64 s.sh, .slice A s.ns.length cp] 39)).alloc (.cells #[.int .i64 t, .slice Ab bs.length cb] 46)) = w1 at HB1 NBs1 NBt1 ⊢
    obtain ⟨Bt, hBt⟩ : ∃ Bt, w.heap.size + 1 = Bt := ⟨_, rfl⟩
    obtain ⟨Bs, hBs⟩ : ∃ Bs, w.heap.size = Bs := ⟨_, rfl⟩
    have oBt : w.heap.size ≤ Bt := by omega
    have oBsBt : Bs < Bt := by omega
    have oBs : w.heap.size ≤ Bs := by omega
    rw [hBt] at NBt1 ⊢
    rw [hBs] at NBs1 ⊢
    clear hBs hBt
    have cBs0_1 : w1.cell? ⟨Bs, 0, none⟩ = some (.int .i64 s.cap) := by simp [World.cell?, NBs1.out]
    have cBs1_1 : w1.cell? ⟨Bs, 1, none⟩ = some (.int .i64 s.can) := by simp [World.cell?, NBs1.out]
    have cBs2_1 : w1.cell? ⟨Bs, 2, none⟩ = some (.int .i64 s.sl) := by simp [World.cell?, NBs1.out]
    have cBs3_1 : w1.cell? ⟨Bs, 3, none⟩ = some (.int .i64 s.sh) := by simp [World.cell?, NBs1.out]
    have cBs4_1 : w1.cell? ⟨Bs, 4, none⟩ = some (.slice A s.ns.length cp) := by simp [World.cell?, NBs1.out]
    have cBt0_1 : w1.cell? ⟨Bt, 0, none⟩ = some (.int .i64 t) := by simp [World.cell?, NBt1.out]
    have cBt1_1 : w1.cell? ⟨Bt, 1, none⟩ = some (.slice Ab bs.length cb) := by simp [World.cell?, NBt1.out]
    go_wp2_with fail
    refine (hha.out _).mono ?_
    rintro e w2 ⟨rfl, hb⟩
    have HB2 := Lib.hid ((HB1.out).trans (hb.mono (HB1.out).size))
    have NBs2 := Lib.hid ((hb.block Bs (Array.getElem?_eq_some_iff.1 NBs1.out).1).trans NBs1.out)
    have NBt2 := Lib.hid ((hb.block Bt (Array.getElem?_eq_some_iff.1 NBt1.out).1).trans NBt1.out)
    clear HB1 NBs1 NBt1 cBs0_1 cBs1_1 cBs2_1 cBs3_1 cBs4_1 cBt0_1 cBt1_1  hb hha
    have cBs0_2 : w2.cell? ⟨Bs, 0, none⟩ = some (.int .i64 s.cap) := by simp [World.cell?, NBs2.out]
    have cBs1_2 : w2.cell? ⟨Bs, 1, none⟩ = some (.int .i64 s.can) := by simp [World.cell?, NBs2.out]
    have cBs2_2 : w2.cell? ⟨Bs, 2, none⟩ = some (.int .i64 s.sl) := by simp [World.cell?, NBs2.out]
    have cBs3_2 : w2.cell? ⟨Bs, 3, none⟩ = some (.int .i64 s.sh) := by simp [World.cell?, NBs2.out]
    have cBs4_2 : w2.cell? ⟨Bs, 4, none⟩ = some (.slice A s.ns.length cp) := by simp [World.cell?, NBs2.out]
    have cBt0_2 : w2.cell? ⟨Bt, 0, none⟩ = some (.int .i64 t) := by simp [World.cell?, NBt2.out]
    have cBt1_2 : w2.cell? ⟨Bt, 1, none⟩ = some (.slice Ab bs.length cb) := by simp [World.cell?, NBt2.out]
    go_wp2_with fail
    go_ret
    exact ⟨by rw [HF.out]; rfl, HB2.out⟩
  | true =>
    rw [e1] at hha
    have H1 := Lib.hid e1
    clear e1
    by_cases he : bs.length = s.ns.length
    rotate_left
    · have heb : ((bs.length : Int) != (s.ns.length : Int)) = true := by simp; omega
      have HF := Lib.hid (show truthB s t bs = false by unfold truthB; rw [decide_eq_false he]; rfl)
      clear he
      have hB0 : Below w.heap.size w ((w.alloc (.cells #[.int .i64 s.cap, .int .i64 s.can, .int .i64 s.sl, .int .i64 s.sh, .slice A s.ns.length cp] 39)).alloc (.cells #[.int .i64 t, .slice Ab bs.length cb] 46)) := ((Below.refl _ _).alloc (Nat.le_refl _) _).alloc (by simp) _
      have hn0 : ((w.alloc (.cells #[.int .i64 s.cap, .int .i64 s.can, .int .i64 s.sl, .int .i64 s.sh, .slice A s.ns.length cp] 39)).alloc (.cells #[.int .i64 t, .slice Ab bs.length cb] 46)).heap[w.heap.size]? = some (.cells #[.int .i64 s.cap, .int .i64 s.can, .int .i64 s.sl, .int .i64 s.sh, .slice A s.ns.length cp] 39 (0, 0)) := (Below.heap_alloc _ _ _ (by simp <;> omega)).trans (heap_new_at _ _ _ rfl)
      have hn1 : ((w.alloc (.cells #[.int .i64 s.cap, .int .i64 s.can, .int .i64 s.sl, .int .i64 s.sh, .slice A s.ns.length cp] 39)).alloc (.cells #[.int .i64 t, .slice Ab bs.length cb] 46)).heap[w.heap.size + 1]? = some (.cells #[.int .i64 t, .slice Ab bs.length cb] 46 (0, 0)) := heap_new_at _ _ _ (by simp)
      have HB1 := Lib.hid hB0
      have NBs1 := Lib.hid hn0
      have NBt1 := Lib.hid hn1
      clear hB0 hn0 hn1
      go_enter Try.func64, Try.ntmps64
      go_wp2_with fail
      generalize ((w.alloc (.cells #[.int .i64 s.cap, .int .i64 s.can, .int .i64 s.sl, .int .i64 s.sh, .slice A s.ns.length cp] 39)).alloc (.cells #[.int .i64 t, .slice Ab bs.length cb] 46)) = w1 at HB1 NBs1 NBt1 ⊢
      obtain ⟨Bt, hBt⟩ : ∃ Bt, w.heap.size + 1 = Bt := ⟨_, rfl⟩
      obtain ⟨Bs, hBs⟩ : ∃ Bs, w.heap.size = Bs := ⟨_, rfl⟩
      have oBt : w.heap.size ≤ Bt := by omega
      have oBsBt : Bs < Bt := by omega
      have oBs : w.heap.size ≤ Bs := by omega
      rw [hBt] at NBt1 ⊢
      rw [hBs] at NBs1 ⊢
      clear hBs hBt
      have cBs0_1 : w1.cell? ⟨Bs, 0, none⟩ = some (.int .i64 s.cap) := by simp [World.cell?, NBs1.out]
      have cBs1_1 : w1.cell? ⟨Bs, 1, none⟩ = some (.int .i64 s.can) := by simp [World.cell?, NBs1.out]
      have cBs2_1 : w1.cell? ⟨Bs, 2, none⟩ = some (.int .i64 s.sl) := by simp [World.cell?, NBs1.out]
      have cBs3_1 : w1.cell? ⟨Bs, 3, none⟩ = some (.int .i64 s.sh) := by simp [World.cell?, NBs1.out]
      have cBs4_1 : w1.cell? ⟨Bs, 4, none⟩ = some (.slice A s.ns.length cp) := by simp [World.cell?, NBs1.out]
      have cBt0_1 : w1.cell? ⟨Bt, 0, none⟩ = some (.int .i64 t) := by simp [World.cell?, NBt1.out]
      have cBt1_1 : w1.cell? ⟨Bt, 1, none⟩ = some (.slice Ab bs.length cb) := by simp [World.cell?, NBt1.out]
      go_wp2_with fail
      refine (hha.out _).mono ?_
      rintro e w2 ⟨rfl, hb⟩
      have HB2 := Lib.hid ((HB1.out).trans (hb.mono (HB1.out).size))
      have NBs2 := Lib.hid ((hb.block Bs (Array.getElem?_eq_some_iff.1 NBs1.out).1).trans NBs1.out)
      have NBt2 := Lib.hid ((hb.block Bt (Array.getElem?_eq_some_iff.1 NBt1.out).1).trans NBt1.out)
      clear HB1 NBs1 NBt1 cBs0_1 cBs1_1 cBs2_1 cBs3_1 cBs4_1 cBt0_1 cBt1_1  hb hha
      have cBs0_2 : w2.cell? ⟨Bs, 0, none⟩ = some (.int .i64 s.cap) := by simp [World.cell?, NBs2.out]
      have cBs1_2 : w2.cell? ⟨Bs, 1, none⟩ = some (.int .i64 s.can) := by simp [World.cell?, NBs2.out]
      have cBs2_2 : w2.cell? ⟨Bs, 2, none⟩ = some (.int .i64 s.sl) := by simp [World.cell?, NBs2.out]
      have cBs3_2 : w2.cell? ⟨Bs, 3, none⟩ = some (.int .i64 s.sh) := by simp [World.cell?, NBs2.out]
      have cBs4_2 : w2.cell? ⟨Bs, 4, none⟩ = some (.slice A s.ns.length cp) := by simp [World.cell?, NBs2.out]
      have cBt0_2 : w2.cell? ⟨Bt, 0, none⟩ = some (.int .i64 t) := by simp [World.cell?, NBt2.out]
      have cBt1_2 : w2.cell? ⟨Bt, 1, none⟩ = some (.slice Ab bs.length cb) := by simp [World.cell?, NBt2.out]
      go_wp2_with fail
      go_ret
      exact ⟨by rw [HF.out]; rfl, HB2.out⟩
    · have heb : ((bs.length : Int) != (s.ns.length : Int)) = false := by simp [he]
      have HE := Lib.hid he
      clear he
      have hB0 : Below w.heap.size w ((w.alloc (.cells #[.int .i64 s.cap, .int .i64 s.can, .int .i64 s.sl, .int .i64 s.sh, .slice A s.ns.length cp] 39)).alloc (.cells #[.int .i64 t, .slice Ab bs.length cb] 46)) := ((Below.refl _ _).alloc (Nat.le_refl _) _).alloc (by simp) _
      have hn0 : ((w.alloc (.cells #[.int .i64 s.cap, .int .i64 s.can, .int .i64 s.sl, .int .i64 s.sh, .slice A s.ns.length cp] 39)).alloc (.cells #[.int .i64 t, .slice Ab bs.length cb] 46)).heap[w.heap.size]? = some (.cells #[.int .i64 s.cap, .int .i64 s.can, .int .i64 s.sl, .int .i64 s.sh, .slice A s.ns.length cp] 39 (0, 0)) := (Below.heap_alloc _ _ _ (by simp <;> omega)).trans (heap_new_at _ _ _ rfl)
      have hn1 : ((w.alloc (.cells #[.int .i64 s.cap, .int .i64 s.can, .int .i64 s.sl, .int .i64 s.sh, .slice A s.ns.length cp] 39)).alloc (.cells #[.int .i64 t, .slice Ab bs.length cb] 46)).heap[w.heap.size + 1]? = some (.cells #[.int .i64 t, .slice Ab bs.length cb] 46 (0, 0)) := heap_new_at _ _ _ (by simp)
      have HB1 := Lib.hid hB0
      have NBs1 := Lib.hid hn0
      have NBt1 := Lib.hid hn1
      clear hB0 hn0 hn1
      go_enter Try.func64, Try.ntmps64
      go_wp2_with fail
      generalize ((w.alloc (.cells #[.int .i64 s.cap, .int .i64 s.can, .int .i64 s.sl, .int .i64 s.sh, .slice A s.ns.length cp] 39)).alloc (.cells #[.int .i64 t, .slice Ab bs.length cb] 46)) = w1 at HB1 NBs1 NBt1 ⊢
      obtain ⟨Bt, hBt⟩ : ∃ Bt, w.heap.size + 1 = Bt := ⟨_, rfl⟩
      obtain ⟨Bs, hBs⟩ : ∃ Bs, w.heap.size = Bs := ⟨_, rfl⟩
      have oBt : w.heap.size ≤ Bt := by omega
      have oBsBt : Bs < Bt := by omega
      have oBs : w.heap.size ≤ Bs := by omega
      rw [hBt] at NBt1 ⊢
      rw [hBs] at NBs1 ⊢
      clear hBs hBt
      have cBs0_1 : w1.cell? ⟨Bs, 0, none⟩ = some (.int .i64 s.cap) := by simp [World.cell?, NBs1.out]
      have cBs1_1 : w1.cell? ⟨Bs, 1, none⟩ = some (.int .i64 s.can) := by simp [World.cell?, NBs1.out]
      have cBs2_1 : w1.cell? ⟨Bs, 2, none⟩ = some (.int .i64 s.sl) := by simp [World.cell?, NBs1.out]
      have cBs3_1 : w1.cell? ⟨Bs, 3, none⟩ = some (.int .i64 s.sh) := by simp [World.cell?, NBs1.out]
      have cBs4_1 : w1.cell? ⟨Bs, 4, none⟩ = some (.slice A s.ns.length cp) := by simp [World.cell?, NBs1.out]
      have cBt0_1 : w1.cell? ⟨Bt, 0, none⟩ = some (.int .i64 t) := by simp [World.cell?, NBt1.out]
      have cBt1_1 : w1.cell? ⟨Bt, 1, none⟩ = some (.slice Ab bs.length cb) := by simp [World.cell?, NBt1.out]
      go_wp2_with fail
      refine (hha.out _).mono ?_
      rintro e w2 ⟨rfl, hb⟩
      have HB2 := Lib.hid ((HB1.out).trans (hb.mono (HB1.out).size))
      have NBs2 := Lib.hid ((hb.block Bs (Array.getElem?_eq_some_iff.1 NBs1.out).1).trans NBs1.out)
      have NBt2 := Lib.hid ((hb.block Bt (Array.getElem?_eq_some_iff.1 NBt1.out).1).trans NBt1.out)
      clear HB1 NBs1 NBt1 cBs0_1 cBs1_1 cBs2_1 cBs3_1 cBs4_1 cBt0_1 cBt1_1  hb hha
      have cBs0_2 : w2.cell? ⟨Bs, 0, none⟩ = some (.int .i64 s.cap) := by simp [World.cell?, NBs2.out]
      have cBs1_2 : w2.cell? ⟨Bs, 1, none⟩ = some (.int .i64 s.can) := by simp [World.cell?, NBs2.out]
      have cBs2_2 : w2.cell? ⟨Bs, 2, none⟩ = some (.int .i64 s.sl) := by simp [World.cell?, NBs2.out]
      have cBs3_2 : w2.cell? ⟨Bs, 3, none⟩ = some (.int .i64 s.sh) := by simp [World.cell?, NBs2.out]
      have cBs4_2 : w2.cell? ⟨Bs, 4, none⟩ = some (.slice A s.ns.length cp) := by simp [World.cell?, NBs2.out]
      have cBt0_2 : w2.cell? ⟨Bt, 0, none⟩ = some (.int .i64 t) := by simp [World.cell?, NBt2.out]
      have cBt1_2 : w2.cell? ⟨Bt, 1, none⟩ = some (.slice Ab bs.length cb) := by simp [World.cell?, NBt2.out]
      go_wp2_with fail
      go_loopw [25] (TRel s bs w Bs Bt (.cells #[.int .i64 s.cap, .int .i64 s.can, .int .i64 s.sl, .int .i64 s.sh, .slice A s.ns.length cp] 39 (0, 0)) (.cells #[.int .i64 t, .slice Ab bs.length cb] 46 (0, 0))) (fun i _ => s.ns.length - (intOf i).toNat)
      case atStart => exact ⟨0, by omega, rfl, fun j h => by omega, NBs2.out, NBt2.out, HB2.out⟩
      case round =>
        clear HB2 NBs2 NBt2 cBs0_2 cBs1_2 cBs2_2 cBs3_2 cBs4_2 cBt0_2 cBt1_2
        obtain ⟨k, hk, rfl, hall, hn0, hn1, hbe⟩ := hrel
        have HALL := Lib.hid hall
        have HBE := Lib.hid hbe
        have HN0 := Lib.hid hn0
        have HN1 := Lib.hid hn1
        have lBs := (Array.getElem?_eq_some_iff.1 hn0).1
        have lBt := (Array.getElem?_eq_some_iff.1 hn1).1
        have t1 : wr.cell? ⟨Bt, 1, none⟩ = some (.slice Ab bs.length cb) := by simp [World.cell?, hn1]
        clear hall hbe hn0 hn1
        by_cases hlt : k < s.ns.length
        · have hlt' : decide ((k : Int) < (s.ns.length : Int)) = true := by simpa using hlt
          obtain ⟨b, o, rfl, a0, a1, a2, a3, a4⟩ := (HA.out.keep HBE.out (Nat.le_refl _)).at hlt
          rw [← ntAt_at hlt] at a0 a1 a2 a3 a4
          obtain ⟨b', o', rfl, d0⟩ := (HV.out.keep HBE.out (Nat.le_refl _)).at (k := k) (by rw [HE.out]; exact hlt)
          obtain ⟨⟨nh, na, nb, nlo, nhi⟩, hN⟩ : ∃ N, ntAt s k = N := ⟨_, rfl⟩
          obtain ⟨X, hX⟩ : ∃ X, atL bs k = X := ⟨_, rfl⟩
          rw [hN] at a0 a1 a2 a3 a4
          rw [hX] at d0
          dsimp only at a0 a1 a2 a3 a4
          have HNX := Lib.hid (And.intro hN hX)
          have i1 : (0 : Int) ≤ (k : Int) := by omega
          have i2 : (k : Int) < (s.ns.length : Int) := by omega
          have i3 : (k : Int) < (bs.length : Int) := by rw [HE.out]; omega
          have hbl := World.block_lt_of_cell? wr _ d0
          clear hN hX
          have hin := Lib.hid (fun W => has_any nlo nhi X W)
          have hwa : Below wr.heap.size wr (wr.alloc (.cells #[.int .i64 nh, .int .i64 na, .int .i64 nb, .int .i64 nlo, .int .i64 nhi] 105)) := (Below.refl _ _).alloc (Nat.le_refl _) _
          have HWA := Lib.hid hwa
          have s0 := cell_later hwa t1
          have s1 := cell_later hwa d0
          have s2 : (wr.alloc (.cells #[.int .i64 nh, .int .i64 na, .int .i64 nb, .int .i64 nlo, .int .i64 nhi] 105)).cell? ⟨wr.heap.size, 3, none⟩ = some (.int .i64 nlo) := by simp
          have s3 : (wr.alloc (.cells #[.int .i64 nh, .int .i64 na, .int .i64 nb, .int .i64 nlo, .int .i64 nhi] 105)).cell? ⟨wr.heap.size, 4, none⟩ = some (.int .i64 nhi) := by simp
          clear hwa
          cases hb : inB X nlo nhi with
          | false =>
            rw [hb] at hin
            have HF := Lib.hid (truth_no (t := t) hlt (by rw [HNX.out.1, HNX.out.2]; exact hb))
            clear hb
            go_wp2_with fail
            go_region_held3 (fun Y => Y.cell? ⟨Bt, 1, none⟩ = some (.slice (some ⟨b', o', none⟩) bs.length cb) ∧ Y.cell? ⟨b', o' + k, none⟩ = some (.int .i64 X) ∧ Y.cell? ⟨wr.heap.size, 3, none⟩ = some (.int .i64 nlo) ∧ Y.cell? ⟨wr.heap.size, 4, none⟩ = some (.int .i64 nhi)) (first | go_keep | exact ⟨cell_later hb2 s0, cell_later hb2 s1, cell_later hb2 s2, cell_later hb2 s3⟩) ((go_at_call 97; refine (hin.out _).mono ?_; rintro e w2 ⟨rfl, hb2⟩))
            go_wp2_with fail
            go_ret
            exact ⟨by rw [HF.out]; rfl, HBE.out.trans ((HWA.out.drew.trans (hb2.mono HWA.out.drew.size)).mono HBE.out.size)⟩
          | true =>
            rw [hb] at hin
            have HH := Lib.hid hb
            clear hb
            go_wp2_with fail
            go_region_held3 (fun Y => Y.cell? ⟨Bt, 1, none⟩ = some (.slice (some ⟨b', o', none⟩) bs.length cb) ∧ Y.cell? ⟨b', o' + k, none⟩ = some (.int .i64 X) ∧ Y.cell? ⟨wr.heap.size, 3, none⟩ = some (.int .i64 nlo) ∧ Y.cell? ⟨wr.heap.size, 4, none⟩ = some (.int .i64 nhi)) (first | go_keep | exact ⟨cell_later hb2 s0, cell_later hb2 s1, cell_later hb2 s2, cell_later hb2 s3⟩) ((go_at_call 97; refine (hin.out _).mono ?_; rintro e w2 ⟨rfl, hb2⟩))
            have hbx := HWA.out.drew.trans (hb2.mono HWA.out.drew.size)
            go_wp2_with fail
            go_roundw
            case rel => exact ⟨k + 1, by omega, by go_num, (fun j hj => by
              by_cases e : j = k
              · rw [e, HNX.out.1, HNX.out.2]; exact HH.out
              · exact HALL.out j (by omega)), (hbx.block _ lBs).trans HN0.out, (hbx.block _ lBt).trans HN1.out, HBE.out.trans (hbx.mono HBE.out.size)⟩
            case measure => simp [intOf]; omega
        · have hlt' : decide ((k : Int) < (s.ns.length : Int)) = false := by simpa using hlt
          have HF := Lib.hid (truth_yes HE.out H1.out fun j hj => HALL.out j (by omega))
          go_wp2_with fail
          go_ret
          exact ⟨by rw [HF.out]; rfl, HBE.out⟩
end Go.Proofs.Ytefhdcecbmgljaa

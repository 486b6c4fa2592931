/-
  fault, planned: the laws' errors.
-/
import Derived.Test.YtefhdcecbmgljaaRefC
set_option linter.all false
namespace Go.Proofs.Ytefhdcecbmgljaa
open Go.RowKit Go.WalkArith

set_option maxRecDepth 100000 in
set_option maxHeartbeats 2000000 in
theorem lfault_any (s : St) (A : Option Addr) (cp : Nat) (w : World) (hn : s.ns.length ≤ 1000000) (hA : NtsAt w A s.ns) :
    Calls Try.prog 23 #[.agg #[.int .i64 s.cap, .int .i64 s.can, .int .i64 s.sl, .int .i64 s.sh, .slice A s.ns.length cp]] w fun e w' => e = .returned (.int .i64 (faultS s)) ∧ Below w.heap.size w w' := by
  have hb : Below w.heap.size w (w.alloc (.cells #[.int .i64 s.cap, .int .i64 s.can, .int .i64 s.sl, .int .i64 s.sh, .slice A s.ns.length cp] 26)) := (Below.refl _ _).alloc (Nat.le_refl _) _
  have HB := Lib.hid hb
  have HA := Lib.hid (hA.keep hb (Nat.le_refl _))
  clear hb hA
  go_enter Try.func23, Try.ntmps23
  go_wp2_with fail
  refine (rfault_any s A cp _ hn HA.out).mono ?_
  rintro e w2 ⟨rfl, hb2⟩
  go_wp2_with fail
  go_ret
  exact ⟨rfl, HB.out.trans (hb2.mono HB.out.size)⟩

set_option maxRecDepth 100000 in
set_option maxHeartbeats 2000000 in
theorem planned_any (s : St) (A : Option Addr) (cp : Nat) (Ac Ak : Option Addr) (cc ck : Nat) (c k : List Int) (w : World) (hn : s.ns.length ≤ 1000000) (hcl : c.length ≤ 1000000) (hkl : k.length ≤ 1000000) (hA : NtsAt w A s.ns) (hc : IntsAt w (.slice Ac c.length cc) c) (hk : IntsAt w (.slice Ak k.length ck) k) :
    Calls Try.prog 24 #[.agg #[.int .i64 s.cap, .int .i64 s.can, .int .i64 s.sl, .int .i64 s.sh, .slice A s.ns.length cp], .agg #[.slice Ac c.length cc, .slice Ak k.length ck]] w fun e w' => e = .returned (.int .i64 (planL s c k)) ∧ Below w.heap.size w w' := by
  have HA := Lib.hid hA
  have HC := Lib.hid hc
  have HK := Lib.hid hk
  have hcs := Lib.hid (fun W hW => lfault_any s A cp W hn hW)
  have hca := Lib.hid (fun W hW => rcans_any s A cp (.slice Ac c.length cc) c W hn hcl hW)
  have hwi := Lib.hid (fun W h1 h2 => rwicks_any s A cp (.slice Ak k.length ck) k W hn hkl h1 h2)
  clear hA hc hk
  have hB0 : Below w.heap.size w ((w.alloc (.cells #[.int .i64 s.cap, .int .i64 s.can, .int .i64 s.sl, .int .i64 s.sh, .slice A s.ns.length cp] 26)).alloc (.cells #[.slice Ac c.length cc, .slice Ak k.length ck] 29)) := ((Below.refl _ _).alloc (Nat.le_refl _) _).alloc (by simp) _
  have hn0 : ((w.alloc (.cells #[.int .i64 s.cap, .int .i64 s.can, .int .i64 s.sl, .int .i64 s.sh, .slice A s.ns.length cp] 26)).alloc (.cells #[.slice Ac c.length cc, .slice Ak k.length ck] 29)).heap[w.heap.size]? = some (.cells #[.int .i64 s.cap, .int .i64 s.can, .int .i64 s.sl, .int .i64 s.sh, .slice A s.ns.length cp] 26 (0, 0)) := (Below.heap_alloc _ _ _ (by simp <;> omega)).trans (heap_new_at _ _ _ rfl)
  have hn1 : ((w.alloc (.cells #[.int .i64 s.cap, .int .i64 s.can, .int .i64 s.sl, .int .i64 s.sh, .slice A s.ns.length cp] 26)).alloc (.cells #[.slice Ac c.length cc, .slice Ak k.length ck] 29)).heap[w.heap.size + 1]? = some (.cells #[.slice Ac c.length cc, .slice Ak k.length ck] 29 (0, 0)) := heap_new_at _ _ _ (by simp)
  have HB1 := Lib.hid hB0
  have NBs1 := Lib.hid hn0
  have NBp1 := Lib.hid hn1
  clear hB0 hn0 hn1
  have HFIN : ∀ (w' : World) (x : Int), Below w.heap.size w w' → planL s c k = x → (Ending.returned (.int .i64 x) = Ending.returned (.int .i64 (planL s c k)) ∧ Below w.heap.size w w') := fun _ _ h1 h2 => ⟨by rw [h2], h1⟩
  have HFN := Lib.hid HFIN
  clear HFIN
  have hD := Lib.hid (show planL s c k = if faultS s ≠ 0 then faultS s else if cansB s c && wicksB s k then 0 else 2 from rfl)
  go_enter Try.func24, Try.ntmps24
  go_wp2_with fail
  generalize ((w.alloc (.cells #[.int .i64 s.cap, .int .i64 s.can, .int .i64 s.sl, .int .i64 s.sh, .slice A s.ns.length cp] 26)).alloc (.cells #[.slice Ac c.length cc, .slice Ak k.length ck] 29)) = w1 at HB1 NBs1 NBp1 ⊢
  obtain ⟨Bp, hBp⟩ : ∃ Bp, w.heap.size + 1 = Bp := ⟨_, rfl⟩
  rw [hBp] at NBp1 ⊢
  clear hBp
  have hcell : ∀ (w2 : World), Below w1.heap.size w1 w2 → (w2.cell? ⟨w.heap.size, 0, none⟩ = some (.int .i64 s.cap) ∧ w2.cell? ⟨w.heap.size, 1, none⟩ = some (.int .i64 s.can) ∧ w2.cell? ⟨w.heap.size, 2, none⟩ = some (.int .i64 s.sl) ∧ w2.cell? ⟨w.heap.size, 3, none⟩ = some (.int .i64 s.sh) ∧ w2.cell? ⟨w.heap.size, 4, none⟩ = some (.slice A s.ns.length cp) ∧ w2.cell? ⟨Bp, 0, none⟩ = some (.slice Ac c.length cc) ∧ w2.cell? ⟨Bp, 1, none⟩ = some (.slice Ak k.length ck)) := by
    intro w2 hb
    have n1 := (hb.block w.heap.size (Array.getElem?_eq_some_iff.1 NBs1.out).1).trans NBs1.out
    have n2 := (hb.block Bp (Array.getElem?_eq_some_iff.1 NBp1.out).1).trans NBp1.out
    refine ⟨?_, ?_, ?_, ?_, ?_, ?_, ?_⟩ <;> simp [World.cell?, n1, n2]
  have HCELL := Lib.hid hcell
  clear hcell
  obtain ⟨a0, a1, a2, a3, a4, a5, a6⟩ := HCELL.out _ (Below.refl _ _)
  have hAk : ∀ (w2 : World), Below w1.heap.size w1 w2 → NtsAt w2 A s.ns ∧ IntsAt w2 (.slice Ac c.length cc) c ∧ IntsAt w2 (.slice Ak k.length ck) k := fun _ hb => by
    have h := HB1.out.trans (hb.mono HB1.out.size)
    exact ⟨HA.out.keep h (Nat.le_refl _), HC.out.keep h (Nat.le_refl _), HK.out.keep h (Nat.le_refl _)⟩
  have HAK := Lib.hid hAk
  clear hAk
  go_wp2_with fail
  refine (hcs.out _ (HAK.out _ (Below.refl _ _)).1).mono ?_
  rintro e w2 ⟨rfl, hb⟩
  have HB2 := Lib.hid hb
  clear a0 a1 a2 a3 a4 a5 a6 hb hcs
  obtain ⟨a0, a1, a2, a3, a4, a5, a6⟩ := HCELL.out _ HB2.out
  by_cases h0 : faultS s = 0
  · have HP := Lib.hid (hD.out.trans (if_neg (by rw [h0]; simp)))
    rw [h0]
    clear h0
    cases e1 : cansB s c with
    | false =>
      rw [e1] at hca HP
      clear e1
      go_wp2_with fail
      refine (hca.out _ (HAK.out _ HB2.out).2.1).mono ?_
      rintro e w3 ⟨rfl, hb⟩
      have HB3 := Lib.hid (HB2.out.trans (hb.mono HB2.out.size))
      go_wp2_with fail
      go_ret
      exact HFN.out _ _ (HB1.out.trans (HB3.out.mono HB1.out.size)) HP.out
    | true =>
      rw [e1] at hca HP
      clear e1
      go_wp2_with fail
      refine (hca.out _ (HAK.out _ HB2.out).2.1).mono ?_
      rintro e w3 ⟨rfl, hb⟩
      have HB3 := Lib.hid (HB2.out.trans (hb.mono HB2.out.size))
      clear a0 a1 a2 a3 a4 a5 a6 hb hca
      obtain ⟨a0, a1, a2, a3, a4, a5, a6⟩ := HCELL.out _ HB3.out
      cases e2 : wicksB s k with
      | false =>
        rw [e2] at hwi HP
        clear e2
        go_wp2_with fail
        refine (hwi.out _ (HAK.out _ HB3.out).1 (HAK.out _ HB3.out).2.2).mono ?_
        rintro e w4 ⟨rfl, hb⟩
        have HB4 := Lib.hid (HB3.out.trans (hb.mono HB3.out.size))
        go_wp2_with fail
        go_ret
        exact HFN.out _ _ (HB1.out.trans (HB4.out.mono HB1.out.size)) HP.out
      | true =>
        rw [e2] at hwi HP
        clear e2
        go_wp2_with fail
        refine (hwi.out _ (HAK.out _ HB3.out).1 (HAK.out _ HB3.out).2.2).mono ?_
        rintro e w4 ⟨rfl, hb⟩
        have HB4 := Lib.hid (HB3.out.trans (hb.mono HB3.out.size))
        go_wp2_with fail
        go_ret
        exact HFN.out _ _ (HB1.out.trans (HB4.out.mono HB1.out.size)) HP.out
  · have HP := Lib.hid (hD.out.trans (if_pos h0))
    obtain ⟨Q, hQ⟩ : ∃ Q, faultS s = Q := ⟨_, rfl⟩
    rw [hQ] at HP h0 ⊢
    have hne : (Q != 0) = true := by simpa using h0
    clear hQ h0
    go_wp2_with fail
    go_ret
    exact HFN.out _ _ (HB1.out.trans (HB2.out.mono HB1.out.size)) HP.out
end Go.Proofs.Ytefhdcecbmgljaa

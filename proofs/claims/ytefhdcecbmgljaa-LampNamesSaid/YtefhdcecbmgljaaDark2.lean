/-
  Dark, ProvePlan.
-/
import Derived.Test.YtefhdcecbmgljaaDark
set_option linter.all false
namespace Go.Proofs.Ytefhdcecbmgljaa
open Go.RowKit Go.WalkArith

def DarkPost (s : St) (c k : List Int) (w : World) (e : Ending) (w' : World) : Prop :=
  Below w.heap.size w w' ∧ ((planL s c k ≠ 0 ∧ e = .returned (.tuple #[.slice none 0 0, .int .i64 (planL s c k)])) ∨ (planL s c k = 0 ∧ ∃ v, e = .returned (.tuple #[v, .int .i64 0]) ∧ w'.ownsRow w.heap.size 3 1 v (darkL s (atL c) (atL k)).length ((darkL s (atL c) (atL k)).map (Value.int .i64))))

set_option maxRecDepth 100000 in
set_option maxHeartbeats 2000000 in
theorem Dark_any (s : St) (A : Option Addr) (cp : Nat) (Ac Ak : Option Addr) (cc ck : Nat) (c k : List Int) (w : World) (hn : s.ns.length ≤ 1000000) (hcl : c.length ≤ 1000000) (hkl : k.length ≤ 1000000) (hA : NtsAt w A s.ns) (hc : IntsAt w (.slice Ac c.length cc) c) (hk : IntsAt w (.slice Ak k.length ck) k) :
    Calls Try.prog 46 #[.agg #[.int .i64 s.cap, .int .i64 s.can, .int .i64 s.sl, .int .i64 s.sh, .slice A s.ns.length cp], .agg #[.slice Ac c.length cc, .slice Ak k.length ck]] w (DarkPost s c k w) := by
  have HA := Lib.hid hA
  have HC := Lib.hid hc
  have HK := Lib.hid hk
  have hcs := Lib.hid (fun W h1 h2 h3 => check_any s A cp Ac Ak cc ck c k W hn hcl hkl h1 h2 h3)
  clear hA hc hk
  by_cases h0 : planL s c k = 0
  · have HP := Lib.hid h0
    have hda := Lib.hid (fun W h1 h2 h3 => dark_any s A cp Ac Ak cc ck c k W h0 h1 h2 h3)
    rw [h0] at hcs
    clear h0
    have hB0 : Below w.heap.size w ((w.alloc (.cells #[.int .i64 s.cap, .int .i64 s.can, .int .i64 s.sl, .int .i64 s.sh, .slice A s.ns.length cp] 39)).alloc (.cells #[.slice Ac c.length cc, .slice Ak k.length ck] 44)) := ((Below.refl _ _).alloc (Nat.le_refl _) _).alloc (by simp) _
    have hn0 : ((w.alloc (.cells #[.int .i64 s.cap, .int .i64 s.can, .int .i64 s.sl, .int .i64 s.sh, .slice A s.ns.length cp] 39)).alloc (.cells #[.slice Ac c.length cc, .slice Ak k.length ck] 44)).heap[w.heap.size]? = some (.cells #[.int .i64 s.cap, .int .i64 s.can, .int .i64 s.sl, .int .i64 s.sh, .slice A s.ns.length cp] 39 (0, 0)) := (Below.heap_alloc _ _ _ (by simp <;> omega)).trans (heap_new_at _ _ _ rfl)
    have hn1 : ((w.alloc (.cells #[.int .i64 s.cap, .int .i64 s.can, .int .i64 s.sl, .int .i64 s.sh, .slice A s.ns.length cp] 39)).alloc (.cells #[.slice Ac c.length cc, .slice Ak k.length ck] 44)).heap[w.heap.size + 1]? = some (.cells #[.slice Ac c.length cc, .slice Ak k.length ck] 44 (0, 0)) := heap_new_at _ _ _ (by simp)
    have HB1 := Lib.hid hB0
    have NBs1 := Lib.hid hn0
    have NBp1 := Lib.hid hn1
    clear hB0 hn0 hn1
    go_enter Try.func46, Try.ntmps46
    go_wp2_with fail
    generalize ((w.alloc (.cells #[.int .i64 s.cap, .int .i64 s.can, .int .i64 s.sl, .int .i64 s.sh, .slice A s.ns.length cp] 39)).alloc (.cells #[.slice Ac c.length cc, .slice Ak k.length ck] 44)) = w1 at HB1 NBs1 NBp1 ⊢
    obtain ⟨Bp, hBp⟩ : ∃ Bp, w.heap.size + 1 = Bp := ⟨_, rfl⟩
    obtain ⟨Bs, hBs⟩ : ∃ Bs, w.heap.size = Bs := ⟨_, rfl⟩
    have oBp : w.heap.size ≤ Bp := by omega
    have oBsBp : Bs < Bp := by omega
    have oBs : w.heap.size ≤ Bs := by omega
    rw [hBp] at NBp1 ⊢
    rw [hBs] at NBs1 ⊢
    clear hBs hBp
    have cBs0_1 : w1.cell? ⟨Bs, 0, none⟩ = some (.int .i64 s.cap) := by simp [World.cell?, NBs1.out]
    have cBs1_1 : w1.cell? ⟨Bs, 1, none⟩ = some (.int .i64 s.can) := by simp [World.cell?, NBs1.out]
    have cBs2_1 : w1.cell? ⟨Bs, 2, none⟩ = some (.int .i64 s.sl) := by simp [World.cell?, NBs1.out]
    have cBs3_1 : w1.cell? ⟨Bs, 3, none⟩ = some (.int .i64 s.sh) := by simp [World.cell?, NBs1.out]
    have cBs4_1 : w1.cell? ⟨Bs, 4, none⟩ = some (.slice A s.ns.length cp) := by simp [World.cell?, NBs1.out]
    have cBp0_1 : w1.cell? ⟨Bp, 0, none⟩ = some (.slice Ac c.length cc) := by simp [World.cell?, NBp1.out]
    have cBp1_1 : w1.cell? ⟨Bp, 1, none⟩ = some (.slice Ak k.length ck) := by simp [World.cell?, NBp1.out]
    go_wp2_with fail
    refine (hcs.out _ (HA.out.keep HB1.out (Nat.le_refl _)) (HC.out.keep HB1.out (Nat.le_refl _)) (HK.out.keep HB1.out (Nat.le_refl _))).mono ?_
    rintro e w2 ⟨rfl, hb⟩
    have HB2 := Lib.hid ((HB1.out).trans (hb.mono (HB1.out).size))
    have NBs2 := Lib.hid ((hb.block Bs (Array.getElem?_eq_some_iff.1 NBs1.out).1).trans NBs1.out)
    have NBp2 := Lib.hid ((hb.block Bp (Array.getElem?_eq_some_iff.1 NBp1.out).1).trans NBp1.out)
    clear HB1 NBs1 NBp1 cBs0_1 cBs1_1 cBs2_1 cBs3_1 cBs4_1 cBp0_1 cBp1_1  hb hcs
    have cBs0_2 : w2.cell? ⟨Bs, 0, none⟩ = some (.int .i64 s.cap) := by simp [World.cell?, NBs2.out]
    have cBs1_2 : w2.cell? ⟨Bs, 1, none⟩ = some (.int .i64 s.can) := by simp [World.cell?, NBs2.out]
    have cBs2_2 : w2.cell? ⟨Bs, 2, none⟩ = some (.int .i64 s.sl) := by simp [World.cell?, NBs2.out]
    have cBs3_2 : w2.cell? ⟨Bs, 3, none⟩ = some (.int .i64 s.sh) := by simp [World.cell?, NBs2.out]
    have cBs4_2 : w2.cell? ⟨Bs, 4, none⟩ = some (.slice A s.ns.length cp) := by simp [World.cell?, NBs2.out]
    have cBp0_2 : w2.cell? ⟨Bp, 0, none⟩ = some (.slice Ac c.length cc) := by simp [World.cell?, NBp2.out]
    have cBp1_2 : w2.cell? ⟨Bp, 1, none⟩ = some (.slice Ak k.length ck) := by simp [World.cell?, NBp2.out]
    go_wp2_with fail
    refine (hda.out _ (HA.out.keep HB2.out (Nat.le_refl _)) (HC.out.keep HB2.out (Nat.le_refl _)) (HK.out.keep HB2.out (Nat.le_refl _))).mono ?_
    rintro e w3 ⟨v, rfl, hown, hb⟩
    have hfin : DarkPost s c k w (.returned (.tuple #[v, .int .i64 0])) w3 := ⟨HB2.out.trans (hb.mono HB2.out.size), .inr ⟨HP.out, v, rfl, hown.lower HB2.out.size⟩⟩
    have HF := Lib.hid hfin
    clear hfin hown hb
    go_wp2_with fail
    go_ret2
    exact HF.out
  · have HP := Lib.hid h0
    obtain ⟨Q, hQ⟩ : ∃ Q, planL s c k = Q := ⟨_, rfl⟩
    rw [hQ] at hcs h0
    have HQ := Lib.hid hQ
    have hne : (Q != 0) = true := by simpa using h0
    clear hQ h0
    have hB0 : Below w.heap.size w ((w.alloc (.cells #[.int .i64 s.cap, .int .i64 s.can, .int .i64 s.sl, .int .i64 s.sh, .slice A s.ns.length cp] 39)).alloc (.cells #[.slice Ac c.length cc, .slice Ak k.length ck] 44)) := ((Below.refl _ _).alloc (Nat.le_refl _) _).alloc (by simp) _
    have hn0 : ((w.alloc (.cells #[.int .i64 s.cap, .int .i64 s.can, .int .i64 s.sl, .int .i64 s.sh, .slice A s.ns.length cp] 39)).alloc (.cells #[.slice Ac c.length cc, .slice Ak k.length ck] 44)).heap[w.heap.size]? = some (.cells #[.int .i64 s.cap, .int .i64 s.can, .int .i64 s.sl, .int .i64 s.sh, .slice A s.ns.length cp] 39 (0, 0)) := (Below.heap_alloc _ _ _ (by simp <;> omega)).trans (heap_new_at _ _ _ rfl)
    have hn1 : ((w.alloc (.cells #[.int .i64 s.cap, .int .i64 s.can, .int .i64 s.sl, .int .i64 s.sh, .slice A s.ns.length cp] 39)).alloc (.cells #[.slice Ac c.length cc, .slice Ak k.length ck] 44)).heap[w.heap.size + 1]? = some (.cells #[.slice Ac c.length cc, .slice Ak k.length ck] 44 (0, 0)) := heap_new_at _ _ _ (by simp)
    have HB1 := Lib.hid hB0
    have NBs1 := Lib.hid hn0
    have NBp1 := Lib.hid hn1
    clear hB0 hn0 hn1
    go_enter Try.func46, Try.ntmps46
    go_wp2_with fail
    generalize ((w.alloc (.cells #[.int .i64 s.cap, .int .i64 s.can, .int .i64 s.sl, .int .i64 s.sh, .slice A s.ns.length cp] 39)).alloc (.cells #[.slice Ac c.length cc, .slice Ak k.length ck] 44)) = w1 at HB1 NBs1 NBp1 ⊢
    obtain ⟨Bp, hBp⟩ : ∃ Bp, w.heap.size + 1 = Bp := ⟨_, rfl⟩
    obtain ⟨Bs, hBs⟩ : ∃ Bs, w.heap.size = Bs := ⟨_, rfl⟩
    have oBp : w.heap.size ≤ Bp := by omega
    have oBsBp : Bs < Bp := by omega
    have oBs : w.heap.size ≤ Bs := by omega
    rw [hBp] at NBp1 ⊢
    rw [hBs] at NBs1 ⊢
    clear hBs hBp
    have cBs0_1 : w1.cell? ⟨Bs, 0, none⟩ = some (.int .i64 s.cap) := by simp [World.cell?, NBs1.out]
    have cBs1_1 : w1.cell? ⟨Bs, 1, none⟩ = some (.int .i64 s.can) := by simp [World.cell?, NBs1.out]
    have cBs2_1 : w1.cell? ⟨Bs, 2, none⟩ = some (.int .i64 s.sl) := by simp [World.cell?, NBs1.out]
    have cBs3_1 : w1.cell? ⟨Bs, 3, none⟩ = some (.int .i64 s.sh) := by simp [World.cell?, NBs1.out]
    have cBs4_1 : w1.cell? ⟨Bs, 4, none⟩ = some (.slice A s.ns.length cp) := by simp [World.cell?, NBs1.out]
    have cBp0_1 : w1.cell? ⟨Bp, 0, none⟩ = some (.slice Ac c.length cc) := by simp [World.cell?, NBp1.out]
    have cBp1_1 : w1.cell? ⟨Bp, 1, none⟩ = some (.slice Ak k.length ck) := by simp [World.cell?, NBp1.out]
    go_wp2_with fail
    refine (hcs.out _ (HA.out.keep HB1.out (Nat.le_refl _)) (HC.out.keep HB1.out (Nat.le_refl _)) (HK.out.keep HB1.out (Nat.le_refl _))).mono ?_
    rintro e w2 ⟨rfl, hb⟩
    have HB2 := Lib.hid ((HB1.out).trans (hb.mono (HB1.out).size))
    have NBs2 := Lib.hid ((hb.block Bs (Array.getElem?_eq_some_iff.1 NBs1.out).1).trans NBs1.out)
    have NBp2 := Lib.hid ((hb.block Bp (Array.getElem?_eq_some_iff.1 NBp1.out).1).trans NBp1.out)
    clear HB1 NBs1 NBp1 cBs0_1 cBs1_1 cBs2_1 cBs3_1 cBs4_1 cBp0_1 cBp1_1  hb hcs
    have cBs0_2 : w2.cell? ⟨Bs, 0, none⟩ = some (.int .i64 s.cap) := by simp [World.cell?, NBs2.out]
    have cBs1_2 : w2.cell? ⟨Bs, 1, none⟩ = some (.int .i64 s.can) := by simp [World.cell?, NBs2.out]
    have cBs2_2 : w2.cell? ⟨Bs, 2, none⟩ = some (.int .i64 s.sl) := by simp [World.cell?, NBs2.out]
    have cBs3_2 : w2.cell? ⟨Bs, 3, none⟩ = some (.int .i64 s.sh) := by simp [World.cell?, NBs2.out]
    have cBs4_2 : w2.cell? ⟨Bs, 4, none⟩ = some (.slice A s.ns.length cp) := by simp [World.cell?, NBs2.out]
    have cBp0_2 : w2.cell? ⟨Bp, 0, none⟩ = some (.slice Ac c.length cc) := by simp [World.cell?, NBp2.out]
    have cBp1_2 : w2.cell? ⟨Bp, 1, none⟩ = some (.slice Ak k.length ck) := by simp [World.cell?, NBp2.out]
    have hfin : DarkPost s c k w (.returned (.tuple #[.slice none 0 0, .int .i64 Q])) w2 := ⟨HB2.out, .inl ⟨HP.out, by rw [HQ.out]⟩⟩
    have HF := Lib.hid hfin
    clear hfin
    go_wp2_with fail
    go_ret2
    exact HF.out

def provePlanB (s : St) (c k : List Int) : Bool := decide (planL s c k = 0) && safeB s (atL c) (atL k)

set_option maxRecDepth 100000 in
set_option maxHeartbeats 2000000 in
theorem provePlan_any (s : St) (A : Option Addr) (cp : Nat) (Ac Ak : Option Addr) (cc ck : Nat) (c k : List Int) (w : World) (hn : s.ns.length ≤ 1000000) (hcl : c.length ≤ 1000000) (hkl : k.length ≤ 1000000) (hA : NtsAt w A s.ns) (hc : IntsAt w (.slice Ac c.length cc) c) (hk : IntsAt w (.slice Ak k.length ck) k) :
    Calls Try.prog 51 #[.agg #[.int .i64 s.cap, .int .i64 s.can, .int .i64 s.sl, .int .i64 s.sh, .slice A s.ns.length cp], .agg #[.slice Ac c.length cc, .slice Ak k.length ck]] w fun e w' => e = .returned (.bool (provePlanB s c k)) ∧ Below w.heap.size w w' := by
  have HA := Lib.hid hA
  have HC := Lib.hid hc
  have HK := Lib.hid hk
  have hcs := Lib.hid (fun W h1 h2 h3 => check_any s A cp Ac Ak cc ck c k W hn hcl hkl h1 h2 h3)
  clear hA hc hk
  by_cases h0 : planL s c k = 0
  · have hda := Lib.hid (fun W h1 h2 h3 => dark_any s A cp Ac Ak cc ck c k W h0 h1 h2 h3)
    have HP := Lib.hid (show provePlanB s c k = decide ((darkL s (atL c) (atL k)).length = 0) by
      unfold provePlanB
      rw [decide_eq_true h0, Bool.true_and, Bool.eq_iff_iff, decide_eq_true_eq, List.length_eq_zero_iff]
      exact dark_nil.symm)
    rw [h0] at hcs
    obtain ⟨D, hD⟩ : ∃ D, darkL s (atL c) (atL k) = D := ⟨_, rfl⟩
    rw [hD] at HP hda
    clear h0 hD
    have hB0 : Below w.heap.size w ((w.alloc (.cells #[.int .i64 s.cap, .int .i64 s.can, .int .i64 s.sl, .int .i64 s.sh, .slice A s.ns.length cp] 39)).alloc (.cells #[.slice Ac c.length cc, .slice Ak k.length ck] 44)) := ((Below.refl _ _).alloc (Nat.le_refl _) _).alloc (by simp) _
    have hn0 : ((w.alloc (.cells #[.int .i64 s.cap, .int .i64 s.can, .int .i64 s.sl, .int .i64 s.sh, .slice A s.ns.length cp] 39)).alloc (.cells #[.slice Ac c.length cc, .slice Ak k.length ck] 44)).heap[w.heap.size]? = some (.cells #[.int .i64 s.cap, .int .i64 s.can, .int .i64 s.sl, .int .i64 s.sh, .slice A s.ns.length cp] 39 (0, 0)) := (Below.heap_alloc _ _ _ (by simp <;> omega)).trans (heap_new_at _ _ _ rfl)
    have hn1 : ((w.alloc (.cells #[.int .i64 s.cap, .int .i64 s.can, .int .i64 s.sl, .int .i64 s.sh, .slice A s.ns.length cp] 39)).alloc (.cells #[.slice Ac c.length cc, .slice Ak k.length ck] 44)).heap[w.heap.size + 1]? = some (.cells #[.slice Ac c.length cc, .slice Ak k.length ck] 44 (0, 0)) := heap_new_at _ _ _ (by simp)
    have HB1 := Lib.hid hB0
    have NBs1 := Lib.hid hn0
    have NBp1 := Lib.hid hn1
    clear hB0 hn0 hn1
    go_enter Try.func51, Try.ntmps51
    go_wp2_with fail
    generalize ((w.alloc (.cells #[.int .i64 s.cap, .int .i64 s.can, .int .i64 s.sl, .int .i64 s.sh, .slice A s.ns.length cp] 39)).alloc (.cells #[.slice Ac c.length cc, .slice Ak k.length ck] 44)) = w1 at HB1 NBs1 NBp1 ⊢
    obtain ⟨Bp, hBp⟩ : ∃ Bp, w.heap.size + 1 = Bp := ⟨_, rfl⟩
    obtain ⟨Bs, hBs⟩ : ∃ Bs, w.heap.size = Bs := ⟨_, rfl⟩
    have oBp : w.heap.size ≤ Bp := by omega
    have oBsBp : Bs < Bp := by omega
    have oBs : w.heap.size ≤ Bs := by omega
    rw [hBp] at NBp1 ⊢
    rw [hBs] at NBs1 ⊢
    clear hBs hBp
    have cBs0_1 : w1.cell? ⟨Bs, 0, none⟩ = some (.int .i64 s.cap) := by simp [World.cell?, NBs1.out]
    have cBs1_1 : w1.cell? ⟨Bs, 1, none⟩ = some (.int .i64 s.can) := by simp [World.cell?, NBs1.out]
    have cBs2_1 : w1.cell? ⟨Bs, 2, none⟩ = some (.int .i64 s.sl) := by simp [World.cell?, NBs1.out]
    have cBs3_1 : w1.cell? ⟨Bs, 3, none⟩ = some (.int .i64 s.sh) := by simp [World.cell?, NBs1.out]
    have cBs4_1 : w1.cell? ⟨Bs, 4, none⟩ = some (.slice A s.ns.length cp) := by simp [World.cell?, NBs1.out]
    have cBp0_1 : w1.cell? ⟨Bp, 0, none⟩ = some (.slice Ac c.length cc) := by simp [World.cell?, NBp1.out]
    have cBp1_1 : w1.cell? ⟨Bp, 1, none⟩ = some (.slice Ak k.length ck) := by simp [World.cell?, NBp1.out]
    go_wp2_with fail
    refine (hcs.out _ (HA.out.keep HB1.out (Nat.le_refl _)) (HC.out.keep HB1.out (Nat.le_refl _)) (HK.out.keep HB1.out (Nat.le_refl _))).mono ?_
    rintro e w2 ⟨rfl, hb⟩
    have HB2 := Lib.hid ((HB1.out).trans (hb.mono (HB1.out).size))
    have NBs2 := Lib.hid ((hb.block Bs (Array.getElem?_eq_some_iff.1 NBs1.out).1).trans NBs1.out)
    have NBp2 := Lib.hid ((hb.block Bp (Array.getElem?_eq_some_iff.1 NBp1.out).1).trans NBp1.out)
    clear HB1 NBs1 NBp1 cBs0_1 cBs1_1 cBs2_1 cBs3_1 cBs4_1 cBp0_1 cBp1_1  hb hcs
    have cBs0_2 : w2.cell? ⟨Bs, 0, none⟩ = some (.int .i64 s.cap) := by simp [World.cell?, NBs2.out]
    have cBs1_2 : w2.cell? ⟨Bs, 1, none⟩ = some (.int .i64 s.can) := by simp [World.cell?, NBs2.out]
    have cBs2_2 : w2.cell? ⟨Bs, 2, none⟩ = some (.int .i64 s.sl) := by simp [World.cell?, NBs2.out]
    have cBs3_2 : w2.cell? ⟨Bs, 3, none⟩ = some (.int .i64 s.sh) := by simp [World.cell?, NBs2.out]
    have cBs4_2 : w2.cell? ⟨Bs, 4, none⟩ = some (.slice A s.ns.length cp) := by simp [World.cell?, NBs2.out]
    have cBp0_2 : w2.cell? ⟨Bp, 0, none⟩ = some (.slice Ac c.length cc) := by simp [World.cell?, NBp2.out]
    have cBp1_2 : w2.cell? ⟨Bp, 1, none⟩ = some (.slice Ak k.length ck) := by simp [World.cell?, NBp2.out]
    go_wp2_with fail
    refine (hda.out _ (HA.out.keep HB2.out (Nat.le_refl _)) (HC.out.keep HB2.out (Nat.le_refl _)) (HK.out.keep HB2.out (Nat.le_refl _))).mono ?_
    rintro e w3 ⟨v, rfl, hown, hb⟩
    have HBX := Lib.hid (HB2.out.trans (hb.mono HB2.out.size))
    obtain ⟨Av, cv, rfl⟩ := (IntsAt.of_own hown).slice
    clear hown hb
    by_cases hd : D.length = 0
    · have hb0 : ((D.length : Int) == 0) = true := by simp [hd]
      have HF := Lib.hid (HP.out.trans (decide_eq_true hd))
      clear hd
      go_wp2_with fail
      go_ret
      exact ⟨by rw [HF.out]; rfl, HBX.out⟩
    · have hb0 : ((D.length : Int) == 0) = false := by simpa using hd
      have HF := Lib.hid (HP.out.trans (decide_eq_false hd))
      clear hd
      go_wp2_with fail
      go_ret
      exact ⟨by rw [HF.out]; rfl, HBX.out⟩
  · have HP := Lib.hid (show provePlanB s c k = false by unfold provePlanB; rw [decide_eq_false h0]; rfl)
    obtain ⟨Q, hQ⟩ : ∃ Q, planL s c k = Q := ⟨_, rfl⟩
    rw [hQ] at hcs h0
    have hne : (Q == 0) = false := by simpa using h0
    clear hQ h0
    have hB0 : Below w.heap.size w ((w.alloc (.cells #[.int .i64 s.cap, .int .i64 s.can, .int .i64 s.sl, .int .i64 s.sh, .slice A s.ns.length cp] 39)).alloc (.cells #[.slice Ac c.length cc, .slice Ak k.length ck] 44)) := ((Below.refl _ _).alloc (Nat.le_refl _) _).alloc (by simp) _
    have hn0 : ((w.alloc (.cells #[.int .i64 s.cap, .int .i64 s.can, .int .i64 s.sl, .int .i64 s.sh, .slice A s.ns.length cp] 39)).alloc (.cells #[.slice Ac c.length cc, .slice Ak k.length ck] 44)).heap[w.heap.size]? = some (.cells #[.int .i64 s.cap, .int .i64 s.can, .int .i64 s.sl, .int .i64 s.sh, .slice A s.ns.length cp] 39 (0, 0)) := (Below.heap_alloc _ _ _ (by simp <;> omega)).trans (heap_new_at _ _ _ rfl)
    have hn1 : ((w.alloc (.cells #[.int .i64 s.cap, .int .i64 s.can, .int .i64 s.sl, .int .i64 s.sh, .slice A s.ns.length cp] 39)).alloc (.cells #[.slice Ac c.length cc, .slice Ak k.length ck] 44)).heap[w.heap.size + 1]? = some (.cells #[.slice Ac c.length cc, .slice Ak k.length ck] 44 (0, 0)) := heap_new_at _ _ _ (by simp)
    have HB1 := Lib.hid hB0
    have NBs1 := Lib.hid hn0
    have NBp1 := Lib.hid hn1
    clear hB0 hn0 hn1
    go_enter Try.func51, Try.ntmps51
    go_wp2_with fail
    generalize ((w.alloc (.cells #[.int .i64 s.cap, .int .i64 s.can, .int .i64 s.sl, .int .i64 s.sh, .slice A s.ns.length cp] 39)).alloc (.cells #[.slice Ac c.length cc, .slice Ak k.length ck] 44)) = w1 at HB1 NBs1 NBp1 ⊢
    obtain ⟨Bp, hBp⟩ : ∃ Bp, w.heap.size + 1 = Bp := ⟨_, rfl⟩
    obtain ⟨Bs, hBs⟩ : ∃ Bs, w.heap.size = Bs := ⟨_, rfl⟩
    have oBp : w.heap.size ≤ Bp := by omega
    have oBsBp : Bs < Bp := by omega
    have oBs : w.heap.size ≤ Bs := by omega
    rw [hBp] at NBp1 ⊢
    rw [hBs] at NBs1 ⊢
    clear hBs hBp
    have cBs0_1 : w1.cell? ⟨Bs, 0, none⟩ = some (.int .i64 s.cap) := by simp [World.cell?, NBs1.out]
    have cBs1_1 : w1.cell? ⟨Bs, 1, none⟩ = some (.int .i64 s.can) := by simp [World.cell?, NBs1.out]
    have cBs2_1 : w1.cell? ⟨Bs, 2, none⟩ = some (.int .i64 s.sl) := by simp [World.cell?, NBs1.out]
    have cBs3_1 : w1.cell? ⟨Bs, 3, none⟩ = some (.int .i64 s.sh) := by simp [World.cell?, NBs1.out]
    have cBs4_1 : w1.cell? ⟨Bs, 4, none⟩ = some (.slice A s.ns.length cp) := by simp [World.cell?, NBs1.out]
    have cBp0_1 : w1.cell? ⟨Bp, 0, none⟩ = some (.slice Ac c.length cc) := by simp [World.cell?, NBp1.out]
    have cBp1_1 : w1.cell? ⟨Bp, 1, none⟩ = some (.slice Ak k.length ck) := by simp [World.cell?, NBp1.out]
    go_wp2_with fail
    refine (hcs.out _ (HA.out.keep HB1.out (Nat.le_refl _)) (HC.out.keep HB1.out (Nat.le_refl _)) (HK.out.keep HB1.out (Nat.le_refl _))).mono ?_
    rintro e w2 ⟨rfl, hb⟩
    have HB2 := Lib.hid ((HB1.out).trans (hb.mono (HB1.out).size))
    have NBs2 := Lib.hid ((hb.block Bs (Array.getElem?_eq_some_iff.1 NBs1.out).1).trans NBs1.out)
    have NBp2 := Lib.hid ((hb.block Bp (Array.getElem?_eq_some_iff.1 NBp1.out).1).trans NBp1.out)
    clear HB1 NBs1 NBp1 cBs0_1 cBs1_1 cBs2_1 cBs3_1 cBs4_1 cBp0_1 cBp1_1  hb hcs
    have cBs0_2 : w2.cell? ⟨Bs, 0, none⟩ = some (.int .i64 s.cap) := by simp [World.cell?, NBs2.out]
    have cBs1_2 : w2.cell? ⟨Bs, 1, none⟩ = some (.int .i64 s.can) := by simp [World.cell?, NBs2.out]
    have cBs2_2 : w2.cell? ⟨Bs, 2, none⟩ = some (.int .i64 s.sl) := by simp [World.cell?, NBs2.out]
    have cBs3_2 : w2.cell? ⟨Bs, 3, none⟩ = some (.int .i64 s.sh) := by simp [World.cell?, NBs2.out]
    have cBs4_2 : w2.cell? ⟨Bs, 4, none⟩ = some (.slice A s.ns.length cp) := by simp [World.cell?, NBs2.out]
    have cBp0_2 : w2.cell? ⟨Bp, 0, none⟩ = some (.slice Ac c.length cc) := by simp [World.cell?, NBp2.out]
    have cBp1_2 : w2.cell? ⟨Bp, 1, none⟩ = some (.slice Ak k.length ck) := by simp [World.cell?, NBp2.out]
    go_wp2_with fail
    go_ret
    exact ⟨by rw [HP.out]; rfl, HB2.out⟩
end Go.Proofs.Ytefhdcecbmgljaa

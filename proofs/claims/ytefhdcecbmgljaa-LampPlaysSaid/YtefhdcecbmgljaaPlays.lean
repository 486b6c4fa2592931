/-
  LampPlays: the walk.
-/
import Derived.Test.YtefhdcecbmgljaaAwake
import Derived.Test.YtefhdcecbmgljaaRefI
import Derived.Test.YtefhdcecbmgljaaRefF
set_option linter.all false
namespace Go.Proofs.Ytefhdcecbmgljaa
open Go.RowKit Go.WalkArith


section
variable (s : St) (A : Option Addr) (cp : Nat) (Ac Ak : Option Addr) (cc ck : Nat) (c k : List Int) (t : Int) (Ab : Option Addr) (cb : Nat) (bs : List Int) (w : World) (hn : s.ns.length ≤ 9) (hcl : c.length ≤ 9) (hkl : k.length ≤ 9) (hbl : bs.length ≤ 9) (hA : NtsAt w A s.ns) (hc : IntsAt w (.slice Ac c.length cc) c) (hk : IntsAt w (.slice Ak k.length ck) k) (hv : IntsAt w (.slice Ab bs.length cb) bs)
include hn hcl hkl hbl hA hc hk hv
theorem play_no (h : planL s c k ≠ 0) : Calls Try.prog 20 #[.agg #[.int .i64 s.cap, .int .i64 s.can, .int .i64 s.sl, .int .i64 s.sh, .slice A s.ns.length cp], .agg #[.slice Ac c.length cc, .slice Ak k.length ck], .agg #[.int .i64 t, .slice Ab bs.length cb]] w fun e w' => e = .returned (.tuple #[.slice none 0 0, .slice none 0 0, .slice none 0 0, .int .i64 (planL s c k)]) ∧ Below w.heap.size w w' :=
  (play_any s A cp Ac Ak cc ck c k t Ab cb bs w (by omega) (by omega) (by omega) (by omega) hA hc hk hv).mono fun e w' ⟨h1, h2⟩ => by
    rcases h2 with ⟨_, h2⟩ | ⟨h3, _⟩ | ⟨h3, _⟩
    · exact ⟨h2, h1⟩
    · exact absurd h3 h
    · exact absurd h3 h
theorem play_not (h : planL s c k = 0) (ht : truthB s t bs = false) : Calls Try.prog 20 #[.agg #[.int .i64 s.cap, .int .i64 s.can, .int .i64 s.sl, .int .i64 s.sh, .slice A s.ns.length cp], .agg #[.slice Ac c.length cc, .slice Ak k.length ck], .agg #[.int .i64 t, .slice Ab bs.length cb]] w fun e w' => e = .returned (.tuple #[.slice none 0 0, .slice none 0 0, .slice none 0 0, .int .i64 2]) ∧ Below w.heap.size w w' :=
  (play_any s A cp Ac Ak cc ck c k t Ab cb bs w (by omega) (by omega) (by omega) (by omega) hA hc hk hv).mono fun e w' ⟨h1, h2⟩ => by
    rcases h2 with ⟨h3, h2⟩ | ⟨_, _, h2⟩ | ⟨_, h3, _⟩
    · exact absurd h h3
    · exact ⟨h2, h1⟩
    · rw [ht] at h3; cases h3
theorem play_yes (h : planL s c k = 0) (ht : truthB s t bs = true) : Calls Try.prog 20 #[.agg #[.int .i64 s.cap, .int .i64 s.can, .int .i64 s.sl, .int .i64 s.sh, .slice A s.ns.length cp], .agg #[.slice Ac c.length cc, .slice Ak k.length ck], .agg #[.int .i64 t, .slice Ab bs.length cb]] w fun e w' => ∃ A1 A2 A3 c1 c2 c3, e = .returned (.tuple #[.slice A1 s.ns.length c1, .slice A2 s.ns.length c2, .slice A3 s.ns.length c3, .int .i64 0]) ∧ IntsAt w' (.slice A1 s.ns.length c1) (leftsL s (atL c) (atL k) (atL bs) t s.ns.length) ∧ IntsAt w' (.slice A2 s.ns.length c2) (backsL s (atL c) (atL k) (atL bs) t s.ns.length) ∧ BoolsAt w' (.slice A3 s.ns.length c3) (litsL s (atL c) (atL k) (atL bs) t s.ns.length) ∧ Below w.heap.size w w' :=
  (play_any s A cp Ac Ak cc ck c k t Ab cb bs w (by omega) (by omega) (by omega) (by omega) hA hc hk hv).mono fun e w' ⟨h1, h2⟩ => by
    rcases h2 with ⟨h3, h2⟩ | ⟨_, h3, h2⟩ | ⟨_, _, v1, v2, v3, rfl, h4, h5, h6⟩
    · exact absurd h h3
    · rw [ht] at h3; cases h3
    · have e1 := leftsL_len s (atL c) (atL k) (atL bs) t s.ns.length
      have e2 := backsL_len s (atL c) (atL k) (atL bs) t s.ns.length
      have e3 := litsL_len s (atL c) (atL k) (atL bs) t s.ns.length
      have i1 := IntsAt.of_own h4
      have i2 := IntsAt.of_own h5
      have i3 := BoolsAt.of_own h6
      obtain ⟨A1, c1, rfl, j1⟩ := id i1
      obtain ⟨A2, c2, rfl, j2⟩ := id i2
      obtain ⟨A3, c3, rfl, j3⟩ := id i3
      rw [e1, e2, e3]
      rw [e1] at i1
      rw [e2] at i2
      rw [e3] at i3
      exact ⟨A1, A2, A3, c1, c2, c3, rfl, i1, i2, i3, h1⟩
end
theorem rplay_yes (s : St) (A : Option Addr) (cp : Nat) (Ac Ak : Option Addr) (cc ck : Nat) (c k : List Int) (t : Int) (Ab : Option Addr) (cb : Nat) (bs : List Int) (w : World) (hok : planL s c k = 0) (htb : truthB s t bs = true) (hA : NtsAt w A s.ns) (hc : IntsAt w (.slice Ac c.length cc) c) (hk : IntsAt w (.slice Ak k.length ck) k) (hv : IntsAt w (.slice Ab bs.length cb) bs) :
    Calls Try.prog 26 #[.agg #[.int .i64 s.cap, .int .i64 s.can, .int .i64 s.sl, .int .i64 s.sh, .slice A s.ns.length cp], .agg #[.slice Ac c.length cc, .slice Ak k.length ck], .agg #[.int .i64 t, .slice Ab bs.length cb]] w fun e w' => ∃ A1 A2 A3 c1 c2 c3, e = .returned (.tuple #[.slice A1 s.ns.length c1, .slice A2 s.ns.length c2, .slice A3 s.ns.length c3]) ∧ IntsAt w' (.slice A1 s.ns.length c1) (leftsL s (atL c) (atL k) (atL bs) t s.ns.length) ∧ IntsAt w' (.slice A2 s.ns.length c2) (backsL s (atL c) (atL k) (atL bs) t s.ns.length) ∧ BoolsAt w' (.slice A3 s.ns.length c3) (litsL s (atL c) (atL k) (atL bs) t s.ns.length) ∧ Below w.heap.size w w' :=
  (rplay_any s A cp Ac Ak cc ck c k t Ab cb bs w hok htb hA hc hk hv).mono fun e w' ⟨h1, v1, v2, v3, he, h4, h5, h6⟩ => by
    subst he
    have e1 := leftsL_len s (atL c) (atL k) (atL bs) t s.ns.length
    have e2 := backsL_len s (atL c) (atL k) (atL bs) t s.ns.length
    have e3 := litsL_len s (atL c) (atL k) (atL bs) t s.ns.length
    have i1 := IntsAt.of_own h4
    have i2 := IntsAt.of_own h5
    have i3 := BoolsAt.of_own h6
    obtain ⟨A1, c1, rfl, j1⟩ := id i1
    obtain ⟨A2, c2, rfl, j2⟩ := id i2
    obtain ⟨A3, c3, rfl, j3⟩ := id i3
    rw [e1, e2, e3]
    rw [e1] at i1
    rw [e2] at i2
    rw [e3] at i3
    exact ⟨A1, A2, A3, c1, c2, c3, rfl, i1, i2, i3, h1⟩
theorem BoolsAt.at' {W : World} {A : Option Addr} {n cap : Nat} {xs : List Bool} (h : BoolsAt W (.slice A n cap) xs) {k : Nat} (hk : k < xs.length) : ∃ b o, A = some ⟨b, o, none⟩ ∧ W.cell? ⟨b, o + k, none⟩ = some (.bool xs[k]) := by
  obtain ⟨A', cap', he, hc⟩ := h
  cases he
  obtain ⟨b, o, rfl, hd⟩ := hc.resolve_left (fun h => by rw [h] at hk; simp at hk)
  exact ⟨b, o, rfl, hd k hk⟩
def LPRel (n : Nat) (w0 : World) (i : Value) (wr : World) : Prop := ∃ k : Nat, k ≤ n ∧ i = .int .i64 k ∧ Below w0.heap.size w0 wr

set_option maxRecDepth 100000 in
set_option maxHeartbeats 4000000 in
theorem plays_walk (s : St) (A : Option Addr) (cp : Nat) (Ac Ak : Option Addr) (cc ck : Nat) (c k : List Int) (t : Int) (Ab : Option Addr) (cb : Nat) (bs : List Int) (w : World) (hA : NtsAt w A s.ns) (hc : IntsAt w (.slice Ac c.length cc) c) (hk : IntsAt w (.slice Ak k.length ck) k) (hv : IntsAt w (.slice Ab bs.length cb) bs) (n1 : NilOk Ac cc) (n2 : NilOk Ak ck) (n3 : NilOk Ab cb) :
    Calls Try.prog 3 #[.agg #[.int .i64 s.cap, .int .i64 s.can, .int .i64 s.sl, .int .i64 s.sh, .slice A s.ns.length cp], .agg #[.slice Ac c.length cc, .slice Ak k.length ck], .agg #[.int .i64 t, .slice Ab bs.length cb]] w fun e w' => e = .returned (.bool true) ∧ Below w.heap.size w w' := by
  have HA := Lib.hid hA
  have HC := Lib.hid hc
  have HK := Lib.hid hk
  have HV := Lib.hid hv
  clear hA hc hk hv
  have hB0 : Below w.heap.size w (((w.alloc (.cells #[.int .i64 s.cap, .int .i64 s.can, .int .i64 s.sl, .int .i64 s.sh, .slice A s.ns.length cp] 26)).alloc (.cells #[.slice Ac c.length cc, .slice Ak k.length ck] 29)).alloc (.cells #[.int .i64 t, .slice Ab bs.length cb] 31)) := (((Below.refl _ _).alloc (Nat.le_refl _) _).alloc (by simp) _).alloc (by simp; omega) _
  have hn0 : (((w.alloc (.cells #[.int .i64 s.cap, .int .i64 s.can, .int .i64 s.sl, .int .i64 s.sh, .slice A s.ns.length cp] 26)).alloc (.cells #[.slice Ac c.length cc, .slice Ak k.length ck] 29)).alloc (.cells #[.int .i64 t, .slice Ab bs.length cb] 31)).heap[w.heap.size]? = some (.cells #[.int .i64 s.cap, .int .i64 s.can, .int .i64 s.sl, .int .i64 s.sh, .slice A s.ns.length cp] 26 (0, 0)) := (Below.heap_alloc _ _ _ (by simp <;> omega)).trans ((Below.heap_alloc _ _ _ (by simp <;> omega)).trans (heap_new_at _ _ _ rfl))
  have hn1 : (((w.alloc (.cells #[.int .i64 s.cap, .int .i64 s.can, .int .i64 s.sl, .int .i64 s.sh, .slice A s.ns.length cp] 26)).alloc (.cells #[.slice Ac c.length cc, .slice Ak k.length ck] 29)).alloc (.cells #[.int .i64 t, .slice Ab bs.length cb] 31)).heap[w.heap.size + 1]? = some (.cells #[.slice Ac c.length cc, .slice Ak k.length ck] 29 (0, 0)) := (Below.heap_alloc _ _ _ (by simp <;> omega)).trans (heap_new_at _ _ _ (by simp))
  have hn2 : (((w.alloc (.cells #[.int .i64 s.cap, .int .i64 s.can, .int .i64 s.sl, .int .i64 s.sh, .slice A s.ns.length cp] 26)).alloc (.cells #[.slice Ac c.length cc, .slice Ak k.length ck] 29)).alloc (.cells #[.int .i64 t, .slice Ab bs.length cb] 31)).heap[w.heap.size + 1 + 1]? = some (.cells #[.int .i64 t, .slice Ab bs.length cb] 31 (0, 0)) := heap_new_at _ _ _ (by simp)
  have HB1 := Lib.hid hB0
  have NBs1 := Lib.hid hn0
  have NBp1 := Lib.hid hn1
  have NBt1 := Lib.hid hn2
  clear hB0 hn0 hn1 hn2
  go_enter Try.func3, Try.ntmps3
  go_wp2_with fail
  generalize (((w.alloc (.cells #[.int .i64 s.cap, .int .i64 s.can, .int .i64 s.sl, .int .i64 s.sh, .slice A s.ns.length cp] 26)).alloc (.cells #[.slice Ac c.length cc, .slice Ak k.length ck] 29)).alloc (.cells #[.int .i64 t, .slice Ab bs.length cb] 31)) = w1 at HB1 NBs1 NBp1 NBt1 ⊢
  obtain ⟨Bt, hBt⟩ : ∃ Bt, w.heap.size + 1 + 1 = Bt := ⟨_, rfl⟩
  obtain ⟨Bp, hBp⟩ : ∃ Bp, w.heap.size + 1 = Bp := ⟨_, rfl⟩
  obtain ⟨Bs, hBs⟩ : ∃ Bs, w.heap.size = Bs := ⟨_, rfl⟩
  have oBt : w.heap.size ≤ Bt := by omega
  have oBsBt : Bs < Bt := by omega
  have oBpBt : Bp < Bt := by omega
  have oBp : w.heap.size ≤ Bp := by omega
  have oBsBp : Bs < Bp := by omega
  have oBs : w.heap.size ≤ Bs := by omega
  rw [hBt] at NBt1 ⊢
  rw [hBp] at NBp1 ⊢
  rw [hBs] at NBs1 ⊢
  clear hBs hBp hBt
  obtain ⟨cBs0_1, cBs1_1, cBs2_1, cBs3_1, cBs4_1⟩ := cells5 NBs1.out
  obtain ⟨cBp0_1, cBp1_1⟩ := cells2 NBp1.out
  obtain ⟨cBt0_1, cBt1_1⟩ := cells2 NBt1.out
  have hth := Lib.hid (thin_any A Ac Ak s.ns.length cp c.length cc k.length ck s.cap s.can s.sl s.sh w1)
  by_cases hT : s.ns.length ≤ 9 ∧ c.length ≤ 9 ∧ k.length ≤ 9
  rotate_left
  · rw [show (decide (s.ns.length ≤ 9) && decide (c.length ≤ 9) && decide (k.length ≤ 9)) = false from by simp; omega] at hth
    go_wp2_with fail
    refine (hth.out).mono ?_
    rintro e w2 ⟨rfl, hb⟩
    have HB2 := Lib.hid ((HB1.out).trans (hb.mono (HB1.out).size))
    have NBs2 := Lib.hid ((hb.block Bs (Array.getElem?_eq_some_iff.1 NBs1.out).1).trans NBs1.out)
    have NBp2 := Lib.hid ((hb.block Bp (Array.getElem?_eq_some_iff.1 NBp1.out).1).trans NBp1.out)
    have NBt2 := Lib.hid ((hb.block Bt (Array.getElem?_eq_some_iff.1 NBt1.out).1).trans NBt1.out)
    clear HB1 NBs1 NBp1 NBt1 cBs0_1 cBs1_1 cBs2_1 cBs3_1 cBs4_1 cBp0_1 cBp1_1 cBt0_1 cBt1_1  hb hth
    obtain ⟨cBs0_2, cBs1_2, cBs2_2, cBs3_2, cBs4_2⟩ := cells5 NBs2.out
    obtain ⟨cBp0_2, cBp1_2⟩ := cells2 NBp2.out
    obtain ⟨cBt0_2, cBt1_2⟩ := cells2 NBt2.out
    go_wp2_with fail
    refine (awake_any _).mono ?_
    rintro e w3 ⟨rfl, hb⟩
    have HB3 := Lib.hid ((HB2.out).trans (hb.mono (HB2.out).size))
    have NBs3 := Lib.hid ((hb.block Bs (Array.getElem?_eq_some_iff.1 NBs2.out).1).trans NBs2.out)
    have NBp3 := Lib.hid ((hb.block Bp (Array.getElem?_eq_some_iff.1 NBp2.out).1).trans NBp2.out)
    have NBt3 := Lib.hid ((hb.block Bt (Array.getElem?_eq_some_iff.1 NBt2.out).1).trans NBt2.out)
    clear HB2 NBs2 NBp2 NBt2 cBs0_2 cBs1_2 cBs2_2 cBs3_2 cBs4_2 cBp0_2 cBp1_2 cBt0_2 cBt1_2  hb 
    obtain ⟨cBs0_3, cBs1_3, cBs2_3, cBs3_3, cBs4_3⟩ := cells5 NBs3.out
    obtain ⟨cBp0_3, cBp1_3⟩ := cells2 NBp3.out
    obtain ⟨cBt0_3, cBt1_3⟩ := cells2 NBt3.out
    go_wp2_with fail
    go_ret
    exact ⟨rfl, HB3.out⟩
  · rw [show (decide (s.ns.length ≤ 9) && decide (c.length ≤ 9) && decide (k.length ≤ 9)) = true from by simp; omega] at hth
    go_wp2_with fail
    refine (hth.out).mono ?_
    rintro e w2 ⟨rfl, hb⟩
    have HB2 := Lib.hid ((HB1.out).trans (hb.mono (HB1.out).size))
    have NBs2 := Lib.hid ((hb.block Bs (Array.getElem?_eq_some_iff.1 NBs1.out).1).trans NBs1.out)
    have NBp2 := Lib.hid ((hb.block Bp (Array.getElem?_eq_some_iff.1 NBp1.out).1).trans NBp1.out)
    have NBt2 := Lib.hid ((hb.block Bt (Array.getElem?_eq_some_iff.1 NBt1.out).1).trans NBt1.out)
    clear HB1 NBs1 NBp1 NBt1 cBs0_1 cBs1_1 cBs2_1 cBs3_1 cBs4_1 cBp0_1 cBp1_1 cBt0_1 cBt1_1  hb hth
    obtain ⟨cBs0_2, cBs1_2, cBs2_2, cBs3_2, cBs4_2⟩ := cells5 NBs2.out
    obtain ⟨cBp0_2, cBp1_2⟩ := cells2 NBp2.out
    obtain ⟨cBt0_2, cBt1_2⟩ := cells2 NBt2.out
    obtain ⟨hn9, hc9, hk9⟩ := hT
    by_cases hb9 : bs.length ≤ 9
    rotate_left
    · have h1 : decide ((bs.length : Int) > 9) = true := by simp; omega
      have h2 : decide (9 < (bs.length : Int)) = true := by simp; omega
      go_wp2_with fail
      refine (awake_any _).mono ?_
      rintro e w3 ⟨rfl, hb⟩
      have HB3 := Lib.hid ((HB2.out).trans (hb.mono (HB2.out).size))
      have NBs3 := Lib.hid ((hb.block Bs (Array.getElem?_eq_some_iff.1 NBs2.out).1).trans NBs2.out)
      have NBp3 := Lib.hid ((hb.block Bp (Array.getElem?_eq_some_iff.1 NBp2.out).1).trans NBp2.out)
      have NBt3 := Lib.hid ((hb.block Bt (Array.getElem?_eq_some_iff.1 NBt2.out).1).trans NBt2.out)
      clear HB2 NBs2 NBp2 NBt2 cBs0_2 cBs1_2 cBs2_2 cBs3_2 cBs4_2 cBp0_2 cBp1_2 cBt0_2 cBt1_2  hb 
      obtain ⟨cBs0_3, cBs1_3, cBs2_3, cBs3_3, cBs4_3⟩ := cells5 NBs3.out
      obtain ⟨cBp0_3, cBp1_3⟩ := cells2 NBp3.out
      obtain ⟨cBt0_3, cBt1_3⟩ := cells2 NBt3.out
      go_wp2_with fail
      go_ret
      exact ⟨rfl, HB3.out⟩
    · have h1 : decide ((bs.length : Int) > 9) = false := by simp; omega
      have h2 : decide (9 < (bs.length : Int)) = false := by simp; omega
      go_wp2_with fail
      refine (store_conv s A cp _ (HA.out.keep HB2.out (Nat.le_refl _)) (by omega)).mono ?_
      rintro e w3 ⟨A1, cp1, rfl, hs1, hb⟩
      have HB3 := Lib.hid ((HB2.out).trans (hb.mono (HB2.out).size))
      have NBs3 := Lib.hid ((hb.block Bs (Array.getElem?_eq_some_iff.1 NBs2.out).1).trans NBs2.out)
      have NBp3 := Lib.hid ((hb.block Bp (Array.getElem?_eq_some_iff.1 NBp2.out).1).trans NBp2.out)
      have NBt3 := Lib.hid ((hb.block Bt (Array.getElem?_eq_some_iff.1 NBt2.out).1).trans NBt2.out)
      have FS3 := Lib.hid hs1
      clear HB2 NBs2 NBp2 NBt2 cBs0_2 cBs1_2 cBs2_2 cBs3_2 cBs4_2 cBp0_2 cBp1_2 cBt0_2 cBt1_2 hs1 hb 
      obtain ⟨cBs0_3, cBs1_3, cBs2_3, cBs3_3, cBs4_3⟩ := cells5 NBs3.out
      obtain ⟨cBp0_3, cBp1_3⟩ := cells2 NBp3.out
      obtain ⟨cBt0_3, cBt1_3⟩ := cells2 NBt3.out
      go_wp2_with fail
      refine (checkStore_any s A1 cp1 _ (by omega) FS3.out).mono ?_
      rintro e w4 ⟨rfl, hb⟩
      have HB4 := Lib.hid ((HB3.out).trans (hb.mono (HB3.out).size))
      have NBs4 := Lib.hid ((hb.block Bs (Array.getElem?_eq_some_iff.1 NBs3.out).1).trans NBs3.out)
      have NBp4 := Lib.hid ((hb.block Bp (Array.getElem?_eq_some_iff.1 NBp3.out).1).trans NBp3.out)
      have NBt4 := Lib.hid ((hb.block Bt (Array.getElem?_eq_some_iff.1 NBt3.out).1).trans NBt3.out)
      have FS4 := Lib.hid ((FS3.out).keep hb (Nat.le_refl _))
      clear HB3 NBs3 NBp3 NBt3 cBs0_3 cBs1_3 cBs2_3 cBs3_3 cBs4_3 cBp0_3 cBp1_3 cBt0_3 cBt1_3 FS3 hb 
      obtain ⟨cBs0_4, cBs1_4, cBs2_4, cBs3_4, cBs4_4⟩ := cells5 NBs4.out
      obtain ⟨cBp0_4, cBp1_4⟩ := cells2 NBp4.out
      obtain ⟨cBt0_4, cBt1_4⟩ := cells2 NBt4.out
      clear FS4
      obtain ⟨F, hF⟩ : ∃ F, faultS s = F := ⟨_, rfl⟩
      rw [hF]
      have HF := Lib.hid hF
      have hFF : (F != F) = false := by simp
      clear hF
      go_wp2_with fail
      by_cases h0 : planL s c k = 0
      rotate_left
      · have hplay := fun A2 cp2 Ac2 Ak2 cc2 ck2 Ab2 cb2 W x1 x2 x3 x4 => play_no s A2 cp2 Ac2 Ak2 cc2 ck2 c k t Ab2 cb2 bs W hn9 hc9 hk9 hb9 x1 x2 x3 x4 h0
        obtain ⟨Q, hQ⟩ : ∃ Q, planL s c k = Q := ⟨_, rfl⟩
        rw [hQ] at hplay h0
        have HPLAY := Lib.hid hplay
        have HQ := Lib.hid hQ
        have hq1 : (Q == 0) = false := by simpa using h0
        have hq2 : (Q != 0) = true := by simpa using h0
        have hq3 : (Q == Q) = true := by simp
        clear hplay hQ h0
        go_region_held3 (fun X => X.cell? ⟨Bs, 0, none⟩ = some (.int .i64 s.cap) ∧ X.cell? ⟨Bs, 1, none⟩ = some (.int .i64 s.can) ∧ X.cell? ⟨Bs, 2, none⟩ = some (.int .i64 s.sl) ∧ X.cell? ⟨Bs, 3, none⟩ = some (.int .i64 s.sh) ∧ X.cell? ⟨Bs, 4, none⟩ = some (.slice A s.ns.length cp) ∧ X.cell? ⟨Bp, 0, none⟩ = some (.slice Ac c.length cc) ∧ X.cell? ⟨Bp, 1, none⟩ = some (.slice Ak k.length ck) ∧ X.cell? ⟨Bt, 0, none⟩ = some (.int .i64 t) ∧ X.cell? ⟨Bt, 1, none⟩ = some (.slice Ab bs.length cb))
          (first | go_keep | exact ⟨(cell_later hb0 cBs0_4), (cell_later hb0 cBs1_4), (cell_later hb0 cBs2_4), (cell_later hb0 cBs3_4), (cell_later hb0 cBs4_4), (cell_later hb0 cBp0_4), (cell_later hb0 cBp1_4), (cell_later hb0 cBt0_4), (cell_later hb0 cBt1_4)⟩ | exact ⟨(cell_later hb1 (cell_later hb0 cBs0_4)), (cell_later hb1 (cell_later hb0 cBs1_4)), (cell_later hb1 (cell_later hb0 cBs2_4)), (cell_later hb1 (cell_later hb0 cBs3_4)), (cell_later hb1 (cell_later hb0 cBs4_4)), (cell_later hb1 (cell_later hb0 cBp0_4)), (cell_later hb1 (cell_later hb0 cBp1_4)), (cell_later hb1 (cell_later hb0 cBt0_4)), (cell_later hb1 (cell_later hb0 cBt1_4))⟩ | exact ⟨(cell_later hb2 (cell_later hb1 (cell_later hb0 cBs0_4))), (cell_later hb2 (cell_later hb1 (cell_later hb0 cBs1_4))), (cell_later hb2 (cell_later hb1 (cell_later hb0 cBs2_4))), (cell_later hb2 (cell_later hb1 (cell_later hb0 cBs3_4))), (cell_later hb2 (cell_later hb1 (cell_later hb0 cBs4_4))), (cell_later hb2 (cell_later hb1 (cell_later hb0 cBp0_4))), (cell_later hb2 (cell_later hb1 (cell_later hb0 cBp1_4))), (cell_later hb2 (cell_later hb1 (cell_later hb0 cBt0_4))), (cell_later hb2 (cell_later hb1 (cell_later hb0 cBt1_4)))⟩ | exact ⟨(cell_later hb3 (cell_later hb2 (cell_later hb1 (cell_later hb0 cBs0_4)))), (cell_later hb3 (cell_later hb2 (cell_later hb1 (cell_later hb0 cBs1_4)))), (cell_later hb3 (cell_later hb2 (cell_later hb1 (cell_later hb0 cBs2_4)))), (cell_later hb3 (cell_later hb2 (cell_later hb1 (cell_later hb0 cBs3_4)))), (cell_later hb3 (cell_later hb2 (cell_later hb1 (cell_later hb0 cBs4_4)))), (cell_later hb3 (cell_later hb2 (cell_later hb1 (cell_later hb0 cBp0_4)))), (cell_later hb3 (cell_later hb2 (cell_later hb1 (cell_later hb0 cBp1_4)))), (cell_later hb3 (cell_later hb2 (cell_later hb1 (cell_later hb0 cBt0_4)))), (cell_later hb3 (cell_later hb2 (cell_later hb1 (cell_later hb0 cBt1_4))))⟩)
          (first | (go_at_call 19; refine (store_conv s A cp w4.drew (HA.out.keep HB4.out.drew (Nat.le_refl _)) (by omega)).mono ?_; rintro e w4_0 ⟨A2, cp2, rfl, hs2, hb0⟩; have hB0 := HB4.out.drew.trans (hb0.mono HB4.out.drew.size)) | (go_at_call 21; refine (plan_conv Ac Ak cc ck c k w4_0 n1 n2 (HC.out.keep hB0 (Nat.le_refl _)) (HK.out.keep hB0 (Nat.le_refl _)) (by omega) (by omega)).mono ?_; rintro e w4_1 ⟨Ac2, Ak2, cc2, ck2, rfl, hc2, hk2, hb1⟩; have hB1 := hB0.trans (hb1.mono hB0.size); have hs3 := hs2.keep hb1 (Nat.le_refl _)) | (go_at_call 22; refine (truth_conv Ab cb t bs w4_1 n3 (HV.out.keep hB1 (Nat.le_refl _)) (by omega)).mono ?_; rintro e w4_2 ⟨Ab2, cb2, rfl, hv2, hb2⟩; have hB2 := hB1.trans (hb2.mono hB1.size); have hs4 := hs3.keep hb2 (Nat.le_refl _); have hc3 := hc2.keep hb2 (Nat.le_refl _); have hk3 := hk2.keep hb2 (Nat.le_refl _)) | (go_at_call 20; refine (HPLAY.out A2 cp2 Ac2 Ak2 cc2 ck2 Ab2 cb2 w4_2 hs4 hc3 hk3 hv2).mono ?_; rintro e w5 ⟨rfl, hb3⟩; have hB3 := hB2.trans (hb3.mono hB2.size)))
        have hbR : Below w4.drew.heap.size w4.drew w5 := ((((((hb0).trans (hb1.mono (hb0).size))).trans (hb2.mono (((hb0).trans (hb1.mono (hb0).size))).size))).trans (hb3.mono (((((hb0).trans (hb1.mono (hb0).size))).trans (hb2.mono (((hb0).trans (hb1.mono (hb0).size))).size))).size))
        have HB5 := Lib.hid ((HB4.out.drew).trans (hbR.mono (HB4.out.drew).size))
        have NBs5 := Lib.hid ((hbR.block Bs (Array.getElem?_eq_some_iff.1 NBs4.out).1).trans NBs4.out)
        have NBp5 := Lib.hid ((hbR.block Bp (Array.getElem?_eq_some_iff.1 NBp4.out).1).trans NBp4.out)
        have NBt5 := Lib.hid ((hbR.block Bt (Array.getElem?_eq_some_iff.1 NBt4.out).1).trans NBt4.out)
        clear HB4 NBs4 NBp4 NBt4 cBs0_4 cBs1_4 cBs2_4 cBs3_4 cBs4_4 cBp0_4 cBp1_4 cBt0_4 cBt1_4  hbR hb0 hB0 hb1 hB1 hb2 hB2 hb3 hB3 hs2 hc2 hk2 hs3 hv2 hs4 hc3 hk3
        obtain ⟨cBs0_5, cBs1_5, cBs2_5, cBs3_5, cBs4_5⟩ := cells5 NBs5.out
        obtain ⟨cBp0_5, cBp1_5⟩ := cells2 NBp5.out
        obtain ⟨cBt0_5, cBt1_5⟩ := cells2 NBt5.out
        go_wp2_with fail
        refine (lfault_any s A cp _ (by omega) (HA.out.keep HB5.out (Nat.le_refl _))).mono ?_
        rintro e w6 ⟨rfl, hb⟩
        have HB6 := Lib.hid ((HB5.out).trans (hb.mono (HB5.out).size))
        have NBs6 := Lib.hid ((hb.block Bs (Array.getElem?_eq_some_iff.1 NBs5.out).1).trans NBs5.out)
        have NBp6 := Lib.hid ((hb.block Bp (Array.getElem?_eq_some_iff.1 NBp5.out).1).trans NBp5.out)
        have NBt6 := Lib.hid ((hb.block Bt (Array.getElem?_eq_some_iff.1 NBt5.out).1).trans NBt5.out)
        clear HB5 NBs5 NBp5 NBt5 cBs0_5 cBs1_5 cBs2_5 cBs3_5 cBs4_5 cBp0_5 cBp1_5 cBt0_5 cBt1_5  hb 
        obtain ⟨cBs0_6, cBs1_6, cBs2_6, cBs3_6, cBs4_6⟩ := cells5 NBs6.out
        obtain ⟨cBp0_6, cBp1_6⟩ := cells2 NBp6.out
        obtain ⟨cBt0_6, cBt1_6⟩ := cells2 NBt6.out
        rw [HF.out]
        go_wp2_with fail
        refine (planned_any s A cp Ac Ak cc ck c k _ (by omega) (by omega) (by omega) (HA.out.keep HB6.out (Nat.le_refl _)) (HC.out.keep HB6.out (Nat.le_refl _)) (HK.out.keep HB6.out (Nat.le_refl _))).mono ?_
        rintro e w7 ⟨rfl, hb⟩
        have HB7 := Lib.hid ((HB6.out).trans (hb.mono (HB6.out).size))
        have NBs7 := Lib.hid ((hb.block Bs (Array.getElem?_eq_some_iff.1 NBs6.out).1).trans NBs6.out)
        have NBp7 := Lib.hid ((hb.block Bp (Array.getElem?_eq_some_iff.1 NBp6.out).1).trans NBp6.out)
        have NBt7 := Lib.hid ((hb.block Bt (Array.getElem?_eq_some_iff.1 NBt6.out).1).trans NBt6.out)
        clear HB6 NBs6 NBp6 NBt6 cBs0_6 cBs1_6 cBs2_6 cBs3_6 cBs4_6 cBp0_6 cBp1_6 cBt0_6 cBt1_6  hb 
        obtain ⟨cBs0_7, cBs1_7, cBs2_7, cBs3_7, cBs4_7⟩ := cells5 NBs7.out
        obtain ⟨cBp0_7, cBp1_7⟩ := cells2 NBp7.out
        obtain ⟨cBt0_7, cBt1_7⟩ := cells2 NBt7.out
        rw [HQ.out]
        go_wp2_with fail
        refine (awake_any _).mono ?_
        rintro e w8 ⟨rfl, hb⟩
        have HB8 := Lib.hid ((HB7.out).trans (hb.mono (HB7.out).size))
        have NBs8 := Lib.hid ((hb.block Bs (Array.getElem?_eq_some_iff.1 NBs7.out).1).trans NBs7.out)
        have NBp8 := Lib.hid ((hb.block Bp (Array.getElem?_eq_some_iff.1 NBp7.out).1).trans NBp7.out)
        have NBt8 := Lib.hid ((hb.block Bt (Array.getElem?_eq_some_iff.1 NBt7.out).1).trans NBt7.out)
        clear HB7 NBs7 NBp7 NBt7 cBs0_7 cBs1_7 cBs2_7 cBs3_7 cBs4_7 cBp0_7 cBp1_7 cBt0_7 cBt1_7  hb 
        obtain ⟨cBs0_8, cBs1_8, cBs2_8, cBs3_8, cBs4_8⟩ := cells5 NBs8.out
        obtain ⟨cBp0_8, cBp1_8⟩ := cells2 NBp8.out
        obtain ⟨cBt0_8, cBt1_8⟩ := cells2 NBt8.out
        go_wp2_with fail
        go_ret
        exact ⟨rfl, HB8.out⟩
      · have H0 := Lib.hid h0
        clear h0
        cases htb : truthB s t bs with
        | false =>
          have HPLAY := Lib.hid (fun A2 cp2 Ac2 Ak2 cc2 ck2 Ab2 cb2 W x1 x2 x3 x4 => play_not s A2 cp2 Ac2 Ak2 cc2 ck2 c k t Ab2 cb2 bs W hn9 hc9 hk9 hb9 x1 x2 x3 x4 H0.out htb)
          have HT := Lib.hid htb
          clear htb
          go_region_held3 (fun X => X.cell? ⟨Bs, 0, none⟩ = some (.int .i64 s.cap) ∧ X.cell? ⟨Bs, 1, none⟩ = some (.int .i64 s.can) ∧ X.cell? ⟨Bs, 2, none⟩ = some (.int .i64 s.sl) ∧ X.cell? ⟨Bs, 3, none⟩ = some (.int .i64 s.sh) ∧ X.cell? ⟨Bs, 4, none⟩ = some (.slice A s.ns.length cp) ∧ X.cell? ⟨Bp, 0, none⟩ = some (.slice Ac c.length cc) ∧ X.cell? ⟨Bp, 1, none⟩ = some (.slice Ak k.length ck) ∧ X.cell? ⟨Bt, 0, none⟩ = some (.int .i64 t) ∧ X.cell? ⟨Bt, 1, none⟩ = some (.slice Ab bs.length cb))
            (first | go_keep | exact ⟨(cell_later hb0 cBs0_4), (cell_later hb0 cBs1_4), (cell_later hb0 cBs2_4), (cell_later hb0 cBs3_4), (cell_later hb0 cBs4_4), (cell_later hb0 cBp0_4), (cell_later hb0 cBp1_4), (cell_later hb0 cBt0_4), (cell_later hb0 cBt1_4)⟩ | exact ⟨(cell_later hb1 (cell_later hb0 cBs0_4)), (cell_later hb1 (cell_later hb0 cBs1_4)), (cell_later hb1 (cell_later hb0 cBs2_4)), (cell_later hb1 (cell_later hb0 cBs3_4)), (cell_later hb1 (cell_later hb0 cBs4_4)), (cell_later hb1 (cell_later hb0 cBp0_4)), (cell_later hb1 (cell_later hb0 cBp1_4)), (cell_later hb1 (cell_later hb0 cBt0_4)), (cell_later hb1 (cell_later hb0 cBt1_4))⟩ | exact ⟨(cell_later hb2 (cell_later hb1 (cell_later hb0 cBs0_4))), (cell_later hb2 (cell_later hb1 (cell_later hb0 cBs1_4))), (cell_later hb2 (cell_later hb1 (cell_later hb0 cBs2_4))), (cell_later hb2 (cell_later hb1 (cell_later hb0 cBs3_4))), (cell_later hb2 (cell_later hb1 (cell_later hb0 cBs4_4))), (cell_later hb2 (cell_later hb1 (cell_later hb0 cBp0_4))), (cell_later hb2 (cell_later hb1 (cell_later hb0 cBp1_4))), (cell_later hb2 (cell_later hb1 (cell_later hb0 cBt0_4))), (cell_later hb2 (cell_later hb1 (cell_later hb0 cBt1_4)))⟩ | exact ⟨(cell_later hb3 (cell_later hb2 (cell_later hb1 (cell_later hb0 cBs0_4)))), (cell_later hb3 (cell_later hb2 (cell_later hb1 (cell_later hb0 cBs1_4)))), (cell_later hb3 (cell_later hb2 (cell_later hb1 (cell_later hb0 cBs2_4)))), (cell_later hb3 (cell_later hb2 (cell_later hb1 (cell_later hb0 cBs3_4)))), (cell_later hb3 (cell_later hb2 (cell_later hb1 (cell_later hb0 cBs4_4)))), (cell_later hb3 (cell_later hb2 (cell_later hb1 (cell_later hb0 cBp0_4)))), (cell_later hb3 (cell_later hb2 (cell_later hb1 (cell_later hb0 cBp1_4)))), (cell_later hb3 (cell_later hb2 (cell_later hb1 (cell_later hb0 cBt0_4)))), (cell_later hb3 (cell_later hb2 (cell_later hb1 (cell_later hb0 cBt1_4))))⟩)
            (first | (go_at_call 19; refine (store_conv s A cp w4.drew (HA.out.keep HB4.out.drew (Nat.le_refl _)) (by omega)).mono ?_; rintro e w4_0 ⟨A2, cp2, rfl, hs2, hb0⟩; have hB0 := HB4.out.drew.trans (hb0.mono HB4.out.drew.size)) | (go_at_call 21; refine (plan_conv Ac Ak cc ck c k w4_0 n1 n2 (HC.out.keep hB0 (Nat.le_refl _)) (HK.out.keep hB0 (Nat.le_refl _)) (by omega) (by omega)).mono ?_; rintro e w4_1 ⟨Ac2, Ak2, cc2, ck2, rfl, hc2, hk2, hb1⟩; have hB1 := hB0.trans (hb1.mono hB0.size); have hs3 := hs2.keep hb1 (Nat.le_refl _)) | (go_at_call 22; refine (truth_conv Ab cb t bs w4_1 n3 (HV.out.keep hB1 (Nat.le_refl _)) (by omega)).mono ?_; rintro e w4_2 ⟨Ab2, cb2, rfl, hv2, hb2⟩; have hB2 := hB1.trans (hb2.mono hB1.size); have hs4 := hs3.keep hb2 (Nat.le_refl _); have hc3 := hc2.keep hb2 (Nat.le_refl _); have hk3 := hk2.keep hb2 (Nat.le_refl _)) | (go_at_call 20; refine (HPLAY.out A2 cp2 Ac2 Ak2 cc2 ck2 Ab2 cb2 w4_2 hs4 hc3 hk3 hv2).mono ?_; rintro e w5 ⟨rfl, hb3⟩; have hB3 := hB2.trans (hb3.mono hB2.size)))
          have hbR : Below w4.drew.heap.size w4.drew w5 := ((((((hb0).trans (hb1.mono (hb0).size))).trans (hb2.mono (((hb0).trans (hb1.mono (hb0).size))).size))).trans (hb3.mono (((((hb0).trans (hb1.mono (hb0).size))).trans (hb2.mono (((hb0).trans (hb1.mono (hb0).size))).size))).size))
          have HB5 := Lib.hid ((HB4.out.drew).trans (hbR.mono (HB4.out.drew).size))
          have NBs5 := Lib.hid ((hbR.block Bs (Array.getElem?_eq_some_iff.1 NBs4.out).1).trans NBs4.out)
          have NBp5 := Lib.hid ((hbR.block Bp (Array.getElem?_eq_some_iff.1 NBp4.out).1).trans NBp4.out)
          have NBt5 := Lib.hid ((hbR.block Bt (Array.getElem?_eq_some_iff.1 NBt4.out).1).trans NBt4.out)
          clear HB4 NBs4 NBp4 NBt4 cBs0_4 cBs1_4 cBs2_4 cBs3_4 cBs4_4 cBp0_4 cBp1_4 cBt0_4 cBt1_4  hbR hb0 hB0 hb1 hB1 hb2 hB2 hb3 hB3 hs2 hc2 hk2 hs3 hv2 hs4 hc3 hk3
          obtain ⟨cBs0_5, cBs1_5, cBs2_5, cBs3_5, cBs4_5⟩ := cells5 NBs5.out
          obtain ⟨cBp0_5, cBp1_5⟩ := cells2 NBp5.out
          obtain ⟨cBt0_5, cBt1_5⟩ := cells2 NBt5.out
          go_wp2_with fail
          refine (lfault_any s A cp _ (by omega) (HA.out.keep HB5.out (Nat.le_refl _))).mono ?_
          rintro e w6 ⟨rfl, hb⟩
          have HB6 := Lib.hid ((HB5.out).trans (hb.mono (HB5.out).size))
          have NBs6 := Lib.hid ((hb.block Bs (Array.getElem?_eq_some_iff.1 NBs5.out).1).trans NBs5.out)
          have NBp6 := Lib.hid ((hb.block Bp (Array.getElem?_eq_some_iff.1 NBp5.out).1).trans NBp5.out)
          have NBt6 := Lib.hid ((hb.block Bt (Array.getElem?_eq_some_iff.1 NBt5.out).1).trans NBt5.out)
          clear HB5 NBs5 NBp5 NBt5 cBs0_5 cBs1_5 cBs2_5 cBs3_5 cBs4_5 cBp0_5 cBp1_5 cBt0_5 cBt1_5  hb 
          obtain ⟨cBs0_6, cBs1_6, cBs2_6, cBs3_6, cBs4_6⟩ := cells5 NBs6.out
          obtain ⟨cBp0_6, cBp1_6⟩ := cells2 NBp6.out
          obtain ⟨cBt0_6, cBt1_6⟩ := cells2 NBt6.out
          rw [HF.out]
          go_wp2_with fail
          refine (planned_any s A cp Ac Ak cc ck c k _ (by omega) (by omega) (by omega) (HA.out.keep HB6.out (Nat.le_refl _)) (HC.out.keep HB6.out (Nat.le_refl _)) (HK.out.keep HB6.out (Nat.le_refl _))).mono ?_
          rintro e w7 ⟨rfl, hb⟩
          have HB7 := Lib.hid ((HB6.out).trans (hb.mono (HB6.out).size))
          have NBs7 := Lib.hid ((hb.block Bs (Array.getElem?_eq_some_iff.1 NBs6.out).1).trans NBs6.out)
          have NBp7 := Lib.hid ((hb.block Bp (Array.getElem?_eq_some_iff.1 NBp6.out).1).trans NBp6.out)
          have NBt7 := Lib.hid ((hb.block Bt (Array.getElem?_eq_some_iff.1 NBt6.out).1).trans NBt6.out)
          clear HB6 NBs6 NBp6 NBt6 cBs0_6 cBs1_6 cBs2_6 cBs3_6 cBs4_6 cBp0_6 cBp1_6 cBt0_6 cBt1_6  hb 
          obtain ⟨cBs0_7, cBs1_7, cBs2_7, cBs3_7, cBs4_7⟩ := cells5 NBs7.out
          obtain ⟨cBp0_7, cBp1_7⟩ := cells2 NBp7.out
          obtain ⟨cBt0_7, cBt1_7⟩ := cells2 NBt7.out
          rw [H0.out]
          go_wp2_with fail
          refine (rtruth_any s A cp t Ab cb bs _ (by omega) (by omega) (HA.out.keep HB7.out (Nat.le_refl _)) (HV.out.keep HB7.out (Nat.le_refl _))).mono ?_
          rintro e w8 ⟨rfl, hb⟩
          have HB8 := Lib.hid ((HB7.out).trans (hb.mono (HB7.out).size))
          have NBs8 := Lib.hid ((hb.block Bs (Array.getElem?_eq_some_iff.1 NBs7.out).1).trans NBs7.out)
          have NBp8 := Lib.hid ((hb.block Bp (Array.getElem?_eq_some_iff.1 NBp7.out).1).trans NBp7.out)
          have NBt8 := Lib.hid ((hb.block Bt (Array.getElem?_eq_some_iff.1 NBt7.out).1).trans NBt7.out)
          clear HB7 NBs7 NBp7 NBt7 cBs0_7 cBs1_7 cBs2_7 cBs3_7 cBs4_7 cBp0_7 cBp1_7 cBt0_7 cBt1_7  hb 
          obtain ⟨cBs0_8, cBs1_8, cBs2_8, cBs3_8, cBs4_8⟩ := cells5 NBs8.out
          obtain ⟨cBp0_8, cBp1_8⟩ := cells2 NBp8.out
          obtain ⟨cBt0_8, cBt1_8⟩ := cells2 NBt8.out
          rw [HT.out]
          go_wp2_with fail
          refine (awake_any _).mono ?_
          rintro e w9 ⟨rfl, hb⟩
          have HB9 := Lib.hid ((HB8.out).trans (hb.mono (HB8.out).size))
          have NBs9 := Lib.hid ((hb.block Bs (Array.getElem?_eq_some_iff.1 NBs8.out).1).trans NBs8.out)
          have NBp9 := Lib.hid ((hb.block Bp (Array.getElem?_eq_some_iff.1 NBp8.out).1).trans NBp8.out)
          have NBt9 := Lib.hid ((hb.block Bt (Array.getElem?_eq_some_iff.1 NBt8.out).1).trans NBt8.out)
          clear HB8 NBs8 NBp8 NBt8 cBs0_8 cBs1_8 cBs2_8 cBs3_8 cBs4_8 cBp0_8 cBp1_8 cBt0_8 cBt1_8  hb 
          obtain ⟨cBs0_9, cBs1_9, cBs2_9, cBs3_9, cBs4_9⟩ := cells5 NBs9.out
          obtain ⟨cBp0_9, cBp1_9⟩ := cells2 NBp9.out
          obtain ⟨cBt0_9, cBt1_9⟩ := cells2 NBt9.out
          go_wp2_with fail
          go_ret
          exact ⟨rfl, HB9.out⟩
        | true =>
          have HPLAY := Lib.hid (fun A2 cp2 Ac2 Ak2 cc2 ck2 Ab2 cb2 W x1 x2 x3 x4 => play_yes s A2 cp2 Ac2 Ak2 cc2 ck2 c k t Ab2 cb2 bs W hn9 hc9 hk9 hb9 x1 x2 x3 x4 H0.out htb)
          have HT := Lib.hid htb
          clear htb
          go_region_held3 (fun X => X.cell? ⟨Bs, 0, none⟩ = some (.int .i64 s.cap) ∧ X.cell? ⟨Bs, 1, none⟩ = some (.int .i64 s.can) ∧ X.cell? ⟨Bs, 2, none⟩ = some (.int .i64 s.sl) ∧ X.cell? ⟨Bs, 3, none⟩ = some (.int .i64 s.sh) ∧ X.cell? ⟨Bs, 4, none⟩ = some (.slice A s.ns.length cp) ∧ X.cell? ⟨Bp, 0, none⟩ = some (.slice Ac c.length cc) ∧ X.cell? ⟨Bp, 1, none⟩ = some (.slice Ak k.length ck) ∧ X.cell? ⟨Bt, 0, none⟩ = some (.int .i64 t) ∧ X.cell? ⟨Bt, 1, none⟩ = some (.slice Ab bs.length cb))
            (first | go_keep | exact ⟨(cell_later hb0 cBs0_4), (cell_later hb0 cBs1_4), (cell_later hb0 cBs2_4), (cell_later hb0 cBs3_4), (cell_later hb0 cBs4_4), (cell_later hb0 cBp0_4), (cell_later hb0 cBp1_4), (cell_later hb0 cBt0_4), (cell_later hb0 cBt1_4)⟩ | exact ⟨(cell_later hb1 (cell_later hb0 cBs0_4)), (cell_later hb1 (cell_later hb0 cBs1_4)), (cell_later hb1 (cell_later hb0 cBs2_4)), (cell_later hb1 (cell_later hb0 cBs3_4)), (cell_later hb1 (cell_later hb0 cBs4_4)), (cell_later hb1 (cell_later hb0 cBp0_4)), (cell_later hb1 (cell_later hb0 cBp1_4)), (cell_later hb1 (cell_later hb0 cBt0_4)), (cell_later hb1 (cell_later hb0 cBt1_4))⟩ | exact ⟨(cell_later hb2 (cell_later hb1 (cell_later hb0 cBs0_4))), (cell_later hb2 (cell_later hb1 (cell_later hb0 cBs1_4))), (cell_later hb2 (cell_later hb1 (cell_later hb0 cBs2_4))), (cell_later hb2 (cell_later hb1 (cell_later hb0 cBs3_4))), (cell_later hb2 (cell_later hb1 (cell_later hb0 cBs4_4))), (cell_later hb2 (cell_later hb1 (cell_later hb0 cBp0_4))), (cell_later hb2 (cell_later hb1 (cell_later hb0 cBp1_4))), (cell_later hb2 (cell_later hb1 (cell_later hb0 cBt0_4))), (cell_later hb2 (cell_later hb1 (cell_later hb0 cBt1_4)))⟩ | exact ⟨(cell_later hb3 (cell_later hb2 (cell_later hb1 (cell_later hb0 cBs0_4)))), (cell_later hb3 (cell_later hb2 (cell_later hb1 (cell_later hb0 cBs1_4)))), (cell_later hb3 (cell_later hb2 (cell_later hb1 (cell_later hb0 cBs2_4)))), (cell_later hb3 (cell_later hb2 (cell_later hb1 (cell_later hb0 cBs3_4)))), (cell_later hb3 (cell_later hb2 (cell_later hb1 (cell_later hb0 cBs4_4)))), (cell_later hb3 (cell_later hb2 (cell_later hb1 (cell_later hb0 cBp0_4)))), (cell_later hb3 (cell_later hb2 (cell_later hb1 (cell_later hb0 cBp1_4)))), (cell_later hb3 (cell_later hb2 (cell_later hb1 (cell_later hb0 cBt0_4)))), (cell_later hb3 (cell_later hb2 (cell_later hb1 (cell_later hb0 cBt1_4))))⟩)
            (first | (go_at_call 19; refine (store_conv s A cp w4.drew (HA.out.keep HB4.out.drew (Nat.le_refl _)) (by omega)).mono ?_; rintro e w4_0 ⟨A2, cp2, rfl, hs2, hb0⟩; have hB0 := HB4.out.drew.trans (hb0.mono HB4.out.drew.size)) | (go_at_call 21; refine (plan_conv Ac Ak cc ck c k w4_0 n1 n2 (HC.out.keep hB0 (Nat.le_refl _)) (HK.out.keep hB0 (Nat.le_refl _)) (by omega) (by omega)).mono ?_; rintro e w4_1 ⟨Ac2, Ak2, cc2, ck2, rfl, hc2, hk2, hb1⟩; have hB1 := hB0.trans (hb1.mono hB0.size); have hs3 := hs2.keep hb1 (Nat.le_refl _)) | (go_at_call 22; refine (truth_conv Ab cb t bs w4_1 n3 (HV.out.keep hB1 (Nat.le_refl _)) (by omega)).mono ?_; rintro e w4_2 ⟨Ab2, cb2, rfl, hv2, hb2⟩; have hB2 := hB1.trans (hb2.mono hB1.size); have hs4 := hs3.keep hb2 (Nat.le_refl _); have hc3 := hc2.keep hb2 (Nat.le_refl _); have hk3 := hk2.keep hb2 (Nat.le_refl _)) | (go_at_call 20; refine (HPLAY.out A2 cp2 Ac2 Ak2 cc2 ck2 Ab2 cb2 w4_2 hs4 hc3 hk3 hv2).mono ?_; rintro e w5 ⟨L1, L2, L3, lc1, lc2, lc3, rfl, hl1, hl2, hl3, hb3⟩; have hB3 := hB2.trans (hb3.mono hB2.size)))
          have hbR : Below w4.drew.heap.size w4.drew w5 := ((((((hb0).trans (hb1.mono (hb0).size))).trans (hb2.mono (((hb0).trans (hb1.mono (hb0).size))).size))).trans (hb3.mono (((((hb0).trans (hb1.mono (hb0).size))).trans (hb2.mono (((hb0).trans (hb1.mono (hb0).size))).size))).size))
          have HB5 := Lib.hid ((HB4.out.drew).trans (hbR.mono (HB4.out.drew).size))
          have NBs5 := Lib.hid ((hbR.block Bs (Array.getElem?_eq_some_iff.1 NBs4.out).1).trans NBs4.out)
          have NBp5 := Lib.hid ((hbR.block Bp (Array.getElem?_eq_some_iff.1 NBp4.out).1).trans NBp4.out)
          have NBt5 := Lib.hid ((hbR.block Bt (Array.getElem?_eq_some_iff.1 NBt4.out).1).trans NBt4.out)
          have FL15 := Lib.hid hl1
          have FL25 := Lib.hid hl2
          have FL35 := Lib.hid hl3
          clear HB4 NBs4 NBp4 NBt4 cBs0_4 cBs1_4 cBs2_4 cBs3_4 cBs4_4 cBp0_4 cBp1_4 cBt0_4 cBt1_4 hl1 hl2 hl3 hbR hb0 hB0 hb1 hB1 hb2 hB2 hb3 hB3 hs2 hc2 hk2 hs3 hv2 hs4 hc3 hk3
          obtain ⟨cBs0_5, cBs1_5, cBs2_5, cBs3_5, cBs4_5⟩ := cells5 NBs5.out
          obtain ⟨cBp0_5, cBp1_5⟩ := cells2 NBp5.out
          obtain ⟨cBt0_5, cBt1_5⟩ := cells2 NBt5.out
          go_wp2_with fail
          refine (lfault_any s A cp _ (by omega) (HA.out.keep HB5.out (Nat.le_refl _))).mono ?_
          rintro e w6 ⟨rfl, hb⟩
          have HB6 := Lib.hid ((HB5.out).trans (hb.mono (HB5.out).size))
          have NBs6 := Lib.hid ((hb.block Bs (Array.getElem?_eq_some_iff.1 NBs5.out).1).trans NBs5.out)
          have NBp6 := Lib.hid ((hb.block Bp (Array.getElem?_eq_some_iff.1 NBp5.out).1).trans NBp5.out)
          have NBt6 := Lib.hid ((hb.block Bt (Array.getElem?_eq_some_iff.1 NBt5.out).1).trans NBt5.out)
          have FL16 := Lib.hid ((FL15.out).keep hb (Nat.le_refl _))
          have FL26 := Lib.hid ((FL25.out).keep hb (Nat.le_refl _))
          have FL36 := Lib.hid ((FL35.out).keep hb (Nat.le_refl _))
          clear HB5 NBs5 NBp5 NBt5 cBs0_5 cBs1_5 cBs2_5 cBs3_5 cBs4_5 cBp0_5 cBp1_5 cBt0_5 cBt1_5 FL15 FL25 FL35 hb 
          obtain ⟨cBs0_6, cBs1_6, cBs2_6, cBs3_6, cBs4_6⟩ := cells5 NBs6.out
          obtain ⟨cBp0_6, cBp1_6⟩ := cells2 NBp6.out
          obtain ⟨cBt0_6, cBt1_6⟩ := cells2 NBt6.out
          rw [HF.out]
          go_wp2_with fail
          refine (planned_any s A cp Ac Ak cc ck c k _ (by omega) (by omega) (by omega) (HA.out.keep HB6.out (Nat.le_refl _)) (HC.out.keep HB6.out (Nat.le_refl _)) (HK.out.keep HB6.out (Nat.le_refl _))).mono ?_
          rintro e w7 ⟨rfl, hb⟩
          have HB7 := Lib.hid ((HB6.out).trans (hb.mono (HB6.out).size))
          have NBs7 := Lib.hid ((hb.block Bs (Array.getElem?_eq_some_iff.1 NBs6.out).1).trans NBs6.out)
          have NBp7 := Lib.hid ((hb.block Bp (Array.getElem?_eq_some_iff.1 NBp6.out).1).trans NBp6.out)
          have NBt7 := Lib.hid ((hb.block Bt (Array.getElem?_eq_some_iff.1 NBt6.out).1).trans NBt6.out)
          have FL17 := Lib.hid ((FL16.out).keep hb (Nat.le_refl _))
          have FL27 := Lib.hid ((FL26.out).keep hb (Nat.le_refl _))
          have FL37 := Lib.hid ((FL36.out).keep hb (Nat.le_refl _))
          clear HB6 NBs6 NBp6 NBt6 cBs0_6 cBs1_6 cBs2_6 cBs3_6 cBs4_6 cBp0_6 cBp1_6 cBt0_6 cBt1_6 FL16 FL26 FL36 hb 
          obtain ⟨cBs0_7, cBs1_7, cBs2_7, cBs3_7, cBs4_7⟩ := cells5 NBs7.out
          obtain ⟨cBp0_7, cBp1_7⟩ := cells2 NBp7.out
          obtain ⟨cBt0_7, cBt1_7⟩ := cells2 NBt7.out
          rw [H0.out]
          go_wp2_with fail
          refine (rtruth_any s A cp t Ab cb bs _ (by omega) (by omega) (HA.out.keep HB7.out (Nat.le_refl _)) (HV.out.keep HB7.out (Nat.le_refl _))).mono ?_
          rintro e w8 ⟨rfl, hb⟩
          have HB8 := Lib.hid ((HB7.out).trans (hb.mono (HB7.out).size))
          have NBs8 := Lib.hid ((hb.block Bs (Array.getElem?_eq_some_iff.1 NBs7.out).1).trans NBs7.out)
          have NBp8 := Lib.hid ((hb.block Bp (Array.getElem?_eq_some_iff.1 NBp7.out).1).trans NBp7.out)
          have NBt8 := Lib.hid ((hb.block Bt (Array.getElem?_eq_some_iff.1 NBt7.out).1).trans NBt7.out)
          have FL18 := Lib.hid ((FL17.out).keep hb (Nat.le_refl _))
          have FL28 := Lib.hid ((FL27.out).keep hb (Nat.le_refl _))
          have FL38 := Lib.hid ((FL37.out).keep hb (Nat.le_refl _))
          clear HB7 NBs7 NBp7 NBt7 cBs0_7 cBs1_7 cBs2_7 cBs3_7 cBs4_7 cBp0_7 cBp1_7 cBt0_7 cBt1_7 FL17 FL27 FL37 hb 
          obtain ⟨cBs0_8, cBs1_8, cBs2_8, cBs3_8, cBs4_8⟩ := cells5 NBs8.out
          obtain ⟨cBp0_8, cBp1_8⟩ := cells2 NBp8.out
          obtain ⟨cBt0_8, cBt1_8⟩ := cells2 NBt8.out
          rw [HT.out]
          go_wp2_with fail
          refine (rplay_yes s A cp Ac Ak cc ck c k t Ab cb bs _ H0.out HT.out (HA.out.keep HB8.out (Nat.le_refl _)) (HC.out.keep HB8.out (Nat.le_refl _)) (HK.out.keep HB8.out (Nat.le_refl _)) (HV.out.keep HB8.out (Nat.le_refl _))).mono ?_
          rintro e w9 ⟨M1, M2, M3, mc1, mc2, mc3, rfl, hm1, hm2, hm3, hb⟩
          have HB9 := Lib.hid ((HB8.out).trans (hb.mono (HB8.out).size))
          have NBs9 := Lib.hid ((hb.block Bs (Array.getElem?_eq_some_iff.1 NBs8.out).1).trans NBs8.out)
          have NBp9 := Lib.hid ((hb.block Bp (Array.getElem?_eq_some_iff.1 NBp8.out).1).trans NBp8.out)
          have NBt9 := Lib.hid ((hb.block Bt (Array.getElem?_eq_some_iff.1 NBt8.out).1).trans NBt8.out)
          have FL19 := Lib.hid ((FL18.out).keep hb (Nat.le_refl _))
          have FL29 := Lib.hid ((FL28.out).keep hb (Nat.le_refl _))
          have FL39 := Lib.hid ((FL38.out).keep hb (Nat.le_refl _))
          have FM19 := Lib.hid hm1
          have FM29 := Lib.hid hm2
          have FM39 := Lib.hid hm3
          clear HB8 NBs8 NBp8 NBt8 cBs0_8 cBs1_8 cBs2_8 cBs3_8 cBs4_8 cBp0_8 cBp1_8 cBt0_8 cBt1_8 FL18 FL28 FL38 hm1 hm2 hm3 hb 
          obtain ⟨cBs0_9, cBs1_9, cBs2_9, cBs3_9, cBs4_9⟩ := cells5 NBs9.out
          obtain ⟨cBp0_9, cBp1_9⟩ := cells2 NBp9.out
          obtain ⟨cBt0_9, cBt1_9⟩ := cells2 NBt9.out
          have hle1 := leftsL_len s (atL c) (atL k) (atL bs) t s.ns.length
          have hle2 := backsL_len s (atL c) (atL k) (atL bs) t s.ns.length
          have hne : ((s.ns.length : Int) != (s.ns.length : Int)) = false := by simp
          go_wp2_with fail
          refine (same_any _ _ _ _ _ FL19.out FM19.out (by omega) (by omega)).mono ?_
          rintro e w10 ⟨rfl, hb⟩
          have HB10 := Lib.hid ((HB9.out).trans (hb.mono (HB9.out).size))
          have NBs10 := Lib.hid ((hb.block Bs (Array.getElem?_eq_some_iff.1 NBs9.out).1).trans NBs9.out)
          have NBp10 := Lib.hid ((hb.block Bp (Array.getElem?_eq_some_iff.1 NBp9.out).1).trans NBp9.out)
          have NBt10 := Lib.hid ((hb.block Bt (Array.getElem?_eq_some_iff.1 NBt9.out).1).trans NBt9.out)
          have FL110 := Lib.hid ((FL19.out).keep hb (Nat.le_refl _))
          have FL210 := Lib.hid ((FL29.out).keep hb (Nat.le_refl _))
          have FL310 := Lib.hid ((FL39.out).keep hb (Nat.le_refl _))
          have FM110 := Lib.hid ((FM19.out).keep hb (Nat.le_refl _))
          have FM210 := Lib.hid ((FM29.out).keep hb (Nat.le_refl _))
          have FM310 := Lib.hid ((FM39.out).keep hb (Nat.le_refl _))
          clear HB9 NBs9 NBp9 NBt9 cBs0_9 cBs1_9 cBs2_9 cBs3_9 cBs4_9 cBp0_9 cBp1_9 cBt0_9 cBt1_9 FL19 FL29 FL39 FM19 FM29 FM39 hb 
          obtain ⟨cBs0_10, cBs1_10, cBs2_10, cBs3_10, cBs4_10⟩ := cells5 NBs10.out
          obtain ⟨cBp0_10, cBp1_10⟩ := cells2 NBp10.out
          obtain ⟨cBt0_10, cBt1_10⟩ := cells2 NBt10.out
          simp only [beq_self_eq_true, decide_true]
          clear FL110
          clear FM110
          go_wp2_with fail
          refine (same_any _ _ _ _ _ FL210.out FM210.out (by omega) (by omega)).mono ?_
          rintro e w11 ⟨rfl, hb⟩
          have HB11 := Lib.hid ((HB10.out).trans (hb.mono (HB10.out).size))
          have NBs11 := Lib.hid ((hb.block Bs (Array.getElem?_eq_some_iff.1 NBs10.out).1).trans NBs10.out)
          have NBp11 := Lib.hid ((hb.block Bp (Array.getElem?_eq_some_iff.1 NBp10.out).1).trans NBp10.out)
          have NBt11 := Lib.hid ((hb.block Bt (Array.getElem?_eq_some_iff.1 NBt10.out).1).trans NBt10.out)
          have FL211 := Lib.hid ((FL210.out).keep hb (Nat.le_refl _))
          have FL311 := Lib.hid ((FL310.out).keep hb (Nat.le_refl _))
          have FM211 := Lib.hid ((FM210.out).keep hb (Nat.le_refl _))
          have FM311 := Lib.hid ((FM310.out).keep hb (Nat.le_refl _))
          clear HB10 NBs10 NBp10 NBt10 cBs0_10 cBs1_10 cBs2_10 cBs3_10 cBs4_10 cBp0_10 cBp1_10 cBt0_10 cBt1_10 FL210 FL310 FM210 FM310 hb 
          obtain ⟨cBs0_11, cBs1_11, cBs2_11, cBs3_11, cBs4_11⟩ := cells5 NBs11.out
          obtain ⟨cBp0_11, cBp1_11⟩ := cells2 NBp11.out
          obtain ⟨cBt0_11, cBt1_11⟩ := cells2 NBt11.out
          simp only [beq_self_eq_true, decide_true]
          clear FL211
          clear FM211
          clear hle1 hle2
          go_wp2_with fail
          go_loopw [16] (LPRel s.ns.length w11) (fun i _ => s.ns.length - (intOf i).toNat)
          case atStart => exact ⟨0, by omega, rfl, Below.refl _ _⟩
          case round =>
            obtain ⟨j, hj, rfl, hbe⟩ := hrel
            have HX := Lib.hid hbe
            clear hbe
            by_cases hlt : j < s.ns.length
            · have hlt' : decide ((j : Int) < (s.ns.length : Int)) = true := by simpa using hlt
              have hl3 := litsL_len s (atL c) (atL k) (atL bs) t s.ns.length
              obtain ⟨b, o, rfl, d0⟩ := (FL311.out.keep HX.out (Nat.le_refl _)).at' (k := j) (by omega)
              obtain ⟨b', o', rfl, d1⟩ := (FM311.out.keep HX.out (Nat.le_refl _)).at' (k := j) (by omega)
              obtain ⟨X, hX⟩ : ∃ X, (litsL s (atL c) (atL k) (atL bs) t s.ns.length)[j]'(by omega) = X := ⟨_, rfl⟩
              rw [hX] at d0 d1
              have i1 : (0 : Int) ≤ (j : Int) := by omega
              have i2 : (j : Int) < (s.ns.length : Int) := by omega
              have hxx : (X != X) = false := by simp
              clear hX hl3
              go_wp2_with fail
              go_quiet (fail)
              go_wp2_with fail
              go_roundw
              case rel => exact ⟨j + 1, by omega, by go_num, HX.out.drewN _⟩
              case measure => simp [intOf]; omega
            · have hlt' : decide ((j : Int) < (s.ns.length : Int)) = false := by simpa using hlt
              have HBF := Lib.hid (HB11.out.trans (HX.out.mono HB11.out.size))
              go_wp2_with fail
              refine (awake_any _).mono ?_
              rintro e wz ⟨rfl, hbz⟩
              go_wp2_with fail
              go_ret
              exact ⟨rfl, HBF.out.trans (hbz.mono HBF.out.size)⟩
end Go.Proofs.Ytefhdcecbmgljaa

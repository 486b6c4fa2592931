/-
  LampTruth: the walk.
-/
import Derived.Test.YtefhdcecbmgljaaDipped
import Derived.Test.YtefhdcecbmgljaaRefG
set_option linter.all false
namespace Go.Proofs.Ytefhdcecbmgljaa
open Go.RowKit Go.WalkArith

section
variable (s : St) (A : Option Addr) (cp : Nat) (Ac Ak : Option Addr) (cc ck : Nat) (c k : List Int) (t : Int) (Ab : Option Addr) (cb : Nat) (bs : List Int) (w : World) (hn : s.ns.length ≤ 9) (hcl : c.length ≤ 9) (hkl : k.length ≤ 9) (hbl : bs.length ≤ 9) (hA : NtsAt w A s.ns) (hc : IntsAt w (.slice Ac c.length cc) c) (hk : IntsAt w (.slice Ak k.length ck) k) (hv : IntsAt w (.slice Ab bs.length cb) bs)
include hn hcl hkl hbl hA hc hk hv
theorem play_yes' (h : planL s c k = 0) (ht : truthB s t bs = true) : Calls Try.prog 20 #[.agg #[.int .i64 s.cap, .int .i64 s.can, .int .i64 s.sl, .int .i64 s.sh, .slice A s.ns.length cp], .agg #[.slice Ac c.length cc, .slice Ak k.length ck], .agg #[.int .i64 t, .slice Ab bs.length cb]] w fun e w' => ∃ A1 A2 A3 c1 c2 c3, e = .returned (.tuple #[.slice A1 s.ns.length c1, .slice A2 s.ns.length c2, .slice A3 s.ns.length c3, .int .i64 0]) ∧ IntsAt w' (.slice A1 s.ns.length c1) (leftsL s (atL c) (atL k) (atL bs) t s.ns.length) ∧ IntsAt w' (.slice A2 s.ns.length c2) (backsL s (atL c) (atL k) (atL bs) t s.ns.length) ∧ BoolsAt w' (.slice A3 s.ns.length c3) (litsL s (atL c) (atL k) (atL bs) t s.ns.length) ∧ Below w.heap.size w w' :=
  (play_any s A cp Ac Ak cc ck c k t Ab cb bs w (by omega) (by omega) (by omega) (by omega) hA hc hk hv).mono fun e w' ⟨h1, h2⟩ => by
    rcases h2 with ⟨h3, h2⟩ | ⟨_, h3, h2⟩ | ⟨_, _, v1, v2, v3, rfl, h4, h5, h6⟩
    · exact absurd h h3
    · rw [ht] at h3; cases h3
    · have e1 := leftsL_len s (atL c) (atL k) (atL bs) t s.ns.length
      have e2 := backsL_len s (atL c) (atL k) (atL bs) t s.ns.length
      have e3 := litsL_len s (atL c) (atL k) (atL bs) t s.ns.length
      have i1 := IntsAt.of_own h4
      have i2 := IntsAt.of_own h5
      have i3 := BoolsAt.of_own h6
      obtain ⟨A1, c1, rfl, j1⟩ := id i1
      obtain ⟨A2, c2, rfl, j2⟩ := id i2
      obtain ⟨A3, c3, rfl, j3⟩ := id i3
      rw [e1, e2, e3]
      rw [e1] at i1
      rw [e2] at i2
      rw [e3] at i3
      exact ⟨A1, A2, A3, c1, c2, c3, rfl, i1, i2, i3, h1⟩
end
theorem BoolsAt.at2 {W : World} {A : Option Addr} {n cap : Nat} {xs : List Bool} (h : BoolsAt W (.slice A n cap) xs) {k : Nat} (hk : k < xs.length) : ∃ b o, A = some ⟨b, o, none⟩ ∧ W.cell? ⟨b, o + k, none⟩ = some (.bool xs[k]) := by
  obtain ⟨A', cap', he, hc⟩ := h
  cases he
  obtain ⟨b, o, rfl, hd⟩ := hc.resolve_left (fun h => by rw [h] at hk; simp at hk)
  exact ⟨b, o, rfl, hd k hk⟩

theorem BoolsAt.drew {W : World} {v : Value} {xs : List Bool} (h : BoolsAt W v xs) : BoolsAt W.drew v xs := h.keep ((Below.refl _ _).drew) (Nat.le_refl _)
theorem backsL_at (s : St) (c k b : Nat → Int) (t : Int) {m i : Nat} (hi : i < m) : atL (backsL s c k b t m) i = oilF s c k b t i + c i * s.can - nowO s (c i) (oilF s c k b t i) := by
  unfold atL backsL; simp [hi]
theorem litsL_at (s : St) (c k b : Nat → Int) (t : Int) {m i : Nat} (hi : i < m) (h : i < (litsL s c k b t m).length) : (litsL s c k b t m)[i] = litO s i (c i) (k i) (b i) (oilF s c k b t i) := by
  simp [litsL]
/-- What LampTruth asks of a night. -/
structure NightOk (s : St) (O M N BK LF U NOW lo hi : Int) (lit : Bool) (dark : Bool) : Prop where
  f_now : O + M - BK = NOW
  f_u : NOW - LF = U
  f_b0 : 0 ≤ BK
  f_b1 : BK ≤ 2000
  f_l0 : 0 ≤ LF
  f_l1 : LF ≤ 400
  f_cap : NOW ≤ s.cap
  f_n0 : 0 ≤ NOW
  f_full : 0 < BK → NOW = s.cap
  f_lo : lo ≤ LF
  f_hi : LF ≤ hi
  f_lit : lit = true → U = N
  f_drk : lit = false → U < N ∧ LF = 0 ∧ dark = true
theorem night_ok {s : St} {c k b : Nat → Int} {t : Int} {dips : List Dp} {L H : Nat → Int} (h : StOk s) (hp : Pl s c k) (ht : Tr s t b) (ha : Ag s c k dips t b) (hr : IsRng s c k dips L H) {j : Nat} (hj : j < s.ns.length) :
    NightOk s (oilF s c k b t j) (c j * s.can) ((ntAt s j).h * k j * b j) (oilF s c k b t j + c j * s.can - nowO s (c j) (oilF s c k b t j)) (oilF s c k b t (j + 1)) (nowO s (c j) (oilF s c k b t j) - oilF s c k b t (j + 1)) (nowO s (c j) (oilF s c k b t j)) (L j) (H j) (litO s j (c j) (k j) (b j) (oilF s c k b t j)) (hasB (darkL s c k) j) := by
  have o0 := oilF_bd h hp ht (i := j) (by omega)
  have o1 := oilF_bd h hp ht (i := j + 1) (by omega)
  have hcj := hp.nn h hj
  have hbj := ht.nn h hj
  have n0 := nowO_bd h (c := c j) (o := oilF s c k b t j) (by omega) o0.1
  have m0 : 0 ≤ c j * s.can := Int.mul_nonneg (by omega) (by have := h.k0; omega)
  have m1 : c j * s.can ≤ 2 * 200 := Int.mul_le_mul (by omega) h.k1 (by have := h.k0; omega) (by omega)
  have hc1 := h.c1
  have hall := hr.all j hj t b ht ha
  have hdef : oilF s c k b t (j + 1) = if nowO s (c j) (oilF s c k b t j) < needO s j (k j) (b j) then 0 else nowO s (c j) (oilF s c k b t j) - needO s j (k j) (b j) := rfl
  have hnow : nowO s (c j) (oilF s c k b t j) = min s.cap (oilF s c k b t j + c j * s.can) := rfl
  have hneed : needO s j (k j) (b j) = (ntAt s j).h * k j * b j := rfl
  have hlit : litO s j (c j) (k j) (b j) (oilF s c k b t j) = decide (needO s j (k j) (b j) ≤ nowO s (c j) (oilF s c k b t j)) := rfl
  have nn := needO_nn h hj (k := k j) (b := b j) (by omega) (by omega)
  refine ⟨by omega, rfl, by omega, by omega, o1.1, by omega, n0.2, n0.1, fun hb => by omega, hall.1, hall.2, fun hl => ?_, fun hl => ?_⟩
  · rw [hlit] at hl
    have := of_decide_eq_true hl
    rw [hdef, if_neg (by omega), ← hneed]; omega
  · have hl2 := hl
    rw [hlit] at hl
    have := of_decide_eq_false hl
    rw [hdef, if_pos (by omega), ← hneed]
    refine ⟨by omega, rfl, ?_⟩
    have hw : wLit s c k j = false := by
      cases e : wLit s c k j with
      | false => rfl
      | true =>
        have := (wLit_iff h hp hj).1 e t b ht
        rw [hl2] at this; cases this
    have := darkL_mem (s := s) (c := c) (k := k) (x := (j : Int)) |>.2 ⟨j, rfl, hj, hw⟩
    simpa [hasB] using this
def TrCut (wr : World) (x : Value) (W : World) : Prop := x = .bool false ∧ Below wr.heap.size wr W
def TrRel (s : St) (c k b : Nat → Int) (t : Int) (w0 : World) (oil i : Value) (wr : World) : Prop := ∃ j : Nat, j ≤ s.ns.length ∧ i = .int .i64 j ∧ oil = .int .i64 (oilF s c k b t j) ∧ Below w0.heap.size w0 wr

set_option maxRecDepth 100000 in
set_option maxHeartbeats 16000000 in
theorem truth_walk (s : St) (A : Option Addr) (cp : Nat) (Ac Ak : Option Addr) (cc ck : Nat) (c k : List Int) (Aw : Option Addr) (cw : Nat) (ws : List Int) (many : Int) (w : World) (hA : NtsAt w A s.ns) (hc : IntsAt w (.slice Ac c.length cc) c) (hk : IntsAt w (.slice Ak k.length ck) k) (hw : WordsAt w (.slice Aw ws.length cw) ws) (hwn : ws.length ≤ 9223372036854775807) (um0 : 0 ≤ many) (um1 : many ≤ 255) (n1 : NilOk Ac cc) (n2 : NilOk Ak ck) :
    Calls Try.prog 7 #[.agg #[.int .i64 s.cap, .int .i64 s.can, .int .i64 s.sl, .int .i64 s.sh, .slice A s.ns.length cp], .agg #[.slice Ac c.length cc, .slice Ak k.length ck], .slice Aw ws.length cw, .int .u8 many] w fun e w' => e = .returned (.bool true) ∧ Below w.heap.size w w' := by
  have HA := Lib.hid hA
  have HC := Lib.hid hc
  have HK := Lib.hid hk
  have HW := Lib.hid hw
  clear hA hc hk hw
  have hB0 : Below w.heap.size w ((w.alloc (.cells #[.int .i64 s.cap, .int .i64 s.can, .int .i64 s.sl, .int .i64 s.sh, .slice A s.ns.length cp] 26)).alloc (.cells #[.slice Ac c.length cc, .slice Ak k.length ck] 29)) := ((Below.refl _ _).alloc (Nat.le_refl _) _).alloc (by simp) _
  have hn0 : ((w.alloc (.cells #[.int .i64 s.cap, .int .i64 s.can, .int .i64 s.sl, .int .i64 s.sh, .slice A s.ns.length cp] 26)).alloc (.cells #[.slice Ac c.length cc, .slice Ak k.length ck] 29)).heap[w.heap.size]? = some (.cells #[.int .i64 s.cap, .int .i64 s.can, .int .i64 s.sl, .int .i64 s.sh, .slice A s.ns.length cp] 26 (0, 0)) := (Below.heap_alloc _ _ _ (by simp <;> omega)).trans (heap_new_at _ _ _ rfl)
  have hn1 : ((w.alloc (.cells #[.int .i64 s.cap, .int .i64 s.can, .int .i64 s.sl, .int .i64 s.sh, .slice A s.ns.length cp] 26)).alloc (.cells #[.slice Ac c.length cc, .slice Ak k.length ck] 29)).heap[w.heap.size + 1]? = some (.cells #[.slice Ac c.length cc, .slice Ak k.length ck] 29 (0, 0)) := heap_new_at _ _ _ (by simp)
  have HB1 := Lib.hid hB0
  have NBs1 := Lib.hid hn0
  have NBp1 := Lib.hid hn1
  clear hB0 hn0 hn1
  go_enter Try.func7, Try.ntmps7
  go_wp2_with fail
  generalize ((w.alloc (.cells #[.int .i64 s.cap, .int .i64 s.can, .int .i64 s.sl, .int .i64 s.sh, .slice A s.ns.length cp] 26)).alloc (.cells #[.slice Ac c.length cc, .slice Ak k.length ck] 29)) = w1 at HB1 NBs1 NBp1 ⊢
  obtain ⟨Bp, hBp⟩ : ∃ Bp, w.heap.size + 1 = Bp := ⟨_, rfl⟩
  obtain ⟨Bs, hBs⟩ : ∃ Bs, w.heap.size = Bs := ⟨_, rfl⟩
  have oBp : w.heap.size ≤ Bp := by omega
  have oBsBp : Bs < Bp := by omega
  have oBs : w.heap.size ≤ Bs := by omega
  rw [hBp] at NBp1 ⊢
  rw [hBs] at NBs1 ⊢
  clear hBs hBp
  obtain ⟨cBs0_1, cBs1_1, cBs2_1, cBs3_1, cBs4_1⟩ := cells5 NBs1.out
  obtain ⟨cBp0_1, cBp1_1⟩ := cells2 NBp1.out
  have hrd := Lib.hid (ready_any s A cp Ac Ak cc ck c k w1 (HA.out.keep HB1.out (Nat.le_refl _)) (HC.out.keep HB1.out (Nat.le_refl _)) (HK.out.keep HB1.out (Nat.le_refl _)))
  cases hR : readyB s c k with
  | false =>
    rw [hR] at hrd
    clear hR
    go_wp2_with fail
    refine (hrd.out).mono ?_
    rintro e w2 ⟨rfl, hb⟩
    have HB2 := Lib.hid ((HB1.out).trans (hb.mono (HB1.out).size))
    have NBs2 := Lib.hid ((hb.block Bs (Array.getElem?_eq_some_iff.1 NBs1.out).1).trans NBs1.out)
    have NBp2 := Lib.hid ((hb.block Bp (Array.getElem?_eq_some_iff.1 NBp1.out).1).trans NBp1.out)
    clear HB1 NBs1 NBp1 cBs0_1 cBs1_1 cBs2_1 cBs3_1 cBs4_1 cBp0_1 cBp1_1  hb hrd
    obtain ⟨cBs0_2, cBs1_2, cBs2_2, cBs3_2, cBs4_2⟩ := cells5 NBs2.out
    obtain ⟨cBp0_2, cBp1_2⟩ := cells2 NBp2.out
    go_wp2_with fail
    refine (awake_any _).mono ?_
    rintro e w3 ⟨rfl, hb⟩
    have HB3 := Lib.hid ((HB2.out).trans (hb.mono (HB2.out).size))
    have NBs3 := Lib.hid ((hb.block Bs (Array.getElem?_eq_some_iff.1 NBs2.out).1).trans NBs2.out)
    have NBp3 := Lib.hid ((hb.block Bp (Array.getElem?_eq_some_iff.1 NBp2.out).1).trans NBp2.out)
    clear HB2 NBs2 NBp2 cBs0_2 cBs1_2 cBs2_2 cBs3_2 cBs4_2 cBp0_2 cBp1_2  hb 
    obtain ⟨cBs0_3, cBs1_3, cBs2_3, cBs3_3, cBs4_3⟩ := cells5 NBs3.out
    obtain ⟨cBp0_3, cBp1_3⟩ := cells2 NBp3.out
    go_wp2_with fail
    go_ret
    exact ⟨rfl, HB3.out⟩
  | true =>
    rw [hR] at hrd
    have h0 := readyB_true hR
    clear hR
    go_wp2_with fail
    refine (hrd.out).mono ?_
    rintro e w2 ⟨rfl, hb⟩
    have HB2 := Lib.hid ((HB1.out).trans (hb.mono (HB1.out).size))
    have NBs2 := Lib.hid ((hb.block Bs (Array.getElem?_eq_some_iff.1 NBs1.out).1).trans NBs1.out)
    have NBp2 := Lib.hid ((hb.block Bp (Array.getElem?_eq_some_iff.1 NBp1.out).1).trans NBp1.out)
    clear HB1 NBs1 NBp1 cBs0_1 cBs1_1 cBs2_1 cBs3_1 cBs4_1 cBp0_1 cBp1_1  hb hrd
    obtain ⟨cBs0_2, cBs1_2, cBs2_2, cBs3_2, cBs4_2⟩ := cells5 NBs2.out
    obtain ⟨cBp0_2, cBp1_2⟩ := cells2 NBp2.out
    obtain ⟨l6, lc, lk⟩ := plan_lens s c k h0
    obtain ⟨hOK, -, -, hPL⟩ := planL_zero.1 h0
    have hpos := hOK.pos
    have H0 := Lib.hid h0
    have HOK := Lib.hid hOK
    have HPL := Lib.hid hPL
    have c9 : c.length ≤ 1000000 := by omega
    have k9 : k.length ≤ 1000000 := by omega
    have n9 : s.ns.length ≤ 1000000 := by omega
    have HLC := Lib.hid lc
    have HLK := Lib.hid lk
    clear h0 hOK hPL lc lk
    go_wp2_with fail
    refine (Picked_any s A cp (.slice Aw ws.length cw) ws _ HOK.out (HA.out.keep HB2.out (Nat.le_refl _)) (HW.out.keep HB2.out (Nat.le_refl _)) hwn).mono ?_
    rintro e w3 ⟨t, Ab, cb, bs, rfl, htb, hbs, hbn, hb⟩
    have HB3 := Lib.hid ((HB2.out).trans (hb.mono (HB2.out).size))
    have NBs3 := Lib.hid ((hb.block Bs (Array.getElem?_eq_some_iff.1 NBs2.out).1).trans NBs2.out)
    have NBp3 := Lib.hid ((hb.block Bp (Array.getElem?_eq_some_iff.1 NBp2.out).1).trans NBp2.out)
    have FB3 := Lib.hid hbs
    clear HB2 NBs2 NBp2 cBs0_2 cBs1_2 cBs2_2 cBs3_2 cBs4_2 cBp0_2 cBp1_2 hbs hb 
    obtain ⟨cBs0_3, cBs1_3, cBs2_3, cBs3_3, cBs4_3⟩ := cells5 NBs3.out
    obtain ⟨cBp0_3, cBp1_3⟩ := cells2 NBp3.out
    go_upto_region 4 with fail
    have hT := Go.heap_alloc_new w3 (.cells #[.int .i64 t, .slice Ab bs.length cb] 31)
    have hb : Below w3.heap.size w3 (w3.alloc (.cells #[.int .i64 t, .slice Ab bs.length cb] 31)) := (Below.refl _ _).alloc (Nat.le_refl _) _
    generalize w3.alloc (.cells #[.int .i64 t, .slice Ab bs.length cb] 31) = w4 at hT hb ⊢
    obtain ⟨Bt, hBt⟩ : ∃ B, w3.heap.size = B := ⟨_, rfl⟩
    rw [hBt] at hT ⊢
    clear hBt
    have HB4 := Lib.hid ((HB3.out).trans (hb.mono (HB3.out).size))
    have NBs4 := Lib.hid ((hb.block Bs (Array.getElem?_eq_some_iff.1 NBs3.out).1).trans NBs3.out)
    have NBp4 := Lib.hid ((hb.block Bp (Array.getElem?_eq_some_iff.1 NBp3.out).1).trans NBp3.out)
    have FB4 := Lib.hid ((FB3.out).keep hb (Nat.le_refl _))
    clear HB3 NBs3 NBp3 cBs0_3 cBs1_3 cBs2_3 cBs3_3 cBs4_3 cBp0_3 cBp1_3 FB3 hb 
    obtain ⟨cBs0_4, cBs1_4, cBs2_4, cBs3_4, cBs4_4⟩ := cells5 NBs4.out
    obtain ⟨cBp0_4, cBp1_4⟩ := cells2 NBp4.out
    have NBt4 := Lib.hid hT
    clear hT
    obtain ⟨cBt0_4, cBt1_4⟩ := cells2 NBt4.out
    have htr := truthB_true.1 htb
    have hbl := htr.1
    have HTB := Lib.hid htb
    have HTR := Lib.hid htr.2
    have HBLN := Lib.hid hbl
    have b9 : bs.length ≤ 1000000 := by omega
    have b9s : bs.length ≤ 9 := by omega
    have n9s : s.ns.length ≤ 9 := by omega
    have c9s : c.length ≤ 9 := by have := HLC.out; omega
    have k9s : k.length ≤ 9 := by have := HLK.out; omega
    clear htr htb hbl
    go_wp2_with fail
    refine (dipped_by s A cp Ac Ak cc ck c k t Ab cb bs (.slice Aw ws.length cw) ws many 0 _ H0.out HTB.out (HA.out.keep HB4.out (Nat.le_refl _)) (HC.out.keep HB4.out (Nat.le_refl _)) (HK.out.keep HB4.out (Nat.le_refl _)) FB4.out (HW.out.keep HB4.out (Nat.le_refl _)) hwn (And.intro um0 um1) (And.intro (Int.le_refl 0) (by omega))).mono ?_
    rintro e w5 ⟨Ad, cd, dips, rfl, hda, hdn, hd4, hdo, hb⟩
    have HB5 := Lib.hid ((HB4.out).trans (hb.mono (HB4.out).size))
    have NBs5 := Lib.hid ((hb.block Bs (Array.getElem?_eq_some_iff.1 NBs4.out).1).trans NBs4.out)
    have NBp5 := Lib.hid ((hb.block Bp (Array.getElem?_eq_some_iff.1 NBp4.out).1).trans NBp4.out)
    have NBt5 := Lib.hid ((hb.block Bt (Array.getElem?_eq_some_iff.1 NBt4.out).1).trans NBt4.out)
    have FB5 := Lib.hid ((FB4.out).keep hb (Nat.le_refl _))
    have FD5 := Lib.hid hda
    clear HB4 NBs4 NBp4 NBt4 cBs0_4 cBs1_4 cBs2_4 cBs3_4 cBs4_4 cBp0_4 cBp1_4 cBt0_4 cBt1_4 FB4 hda hb 
    obtain ⟨cBs0_5, cBs1_5, cBs2_5, cBs3_5, cBs4_5⟩ := cells5 NBs5.out
    obtain ⟨cBp0_5, cBp1_5⟩ := cells2 NBp5.out
    obtain ⟨cBt0_5, cBt1_5⟩ := cells2 NBt5.out
    have hag := hdo.ag
    have hcons : Cons s (atL c) (atL k) dips := ⟨t, atL bs, HTR.out, hag⟩
    have HV0 := Lib.hid (hdo.valid H0.out hd4)
    have HAG := Lib.hid hag
    have HCO := Lib.hid hcons
    have d9 : dips.length ≤ 1000000 := by omega
    clear hag hcons hdo hdn
    go_wp2_with fail
    go_region_held3 (fun X => X.cell? ⟨Bs, 0, none⟩ = some (.int .i64 s.cap) ∧ X.cell? ⟨Bs, 1, none⟩ = some (.int .i64 s.can) ∧ X.cell? ⟨Bs, 2, none⟩ = some (.int .i64 s.sl) ∧ X.cell? ⟨Bs, 3, none⟩ = some (.int .i64 s.sh) ∧ X.cell? ⟨Bs, 4, none⟩ = some (.slice A s.ns.length cp) ∧ X.cell? ⟨Bp, 0, none⟩ = some (.slice Ac c.length cc) ∧ X.cell? ⟨Bp, 1, none⟩ = some (.slice Ak k.length ck) ∧ X.cell? ⟨Bt, 0, none⟩ = some (.int .i64 t) ∧ X.cell? ⟨Bt, 1, none⟩ = some (.slice Ab bs.length cb))
      (first | go_keep | exact ⟨(cell_later hb0 cBs0_5), (cell_later hb0 cBs1_5), (cell_later hb0 cBs2_5), (cell_later hb0 cBs3_5), (cell_later hb0 cBs4_5), (cell_later hb0 cBp0_5), (cell_later hb0 cBp1_5), (cell_later hb0 cBt0_5), (cell_later hb0 cBt1_5)⟩ | exact ⟨(cell_later hb1 (cell_later hb0 cBs0_5)), (cell_later hb1 (cell_later hb0 cBs1_5)), (cell_later hb1 (cell_later hb0 cBs2_5)), (cell_later hb1 (cell_later hb0 cBs3_5)), (cell_later hb1 (cell_later hb0 cBs4_5)), (cell_later hb1 (cell_later hb0 cBp0_5)), (cell_later hb1 (cell_later hb0 cBp1_5)), (cell_later hb1 (cell_later hb0 cBt0_5)), (cell_later hb1 (cell_later hb0 cBt1_5))⟩ | exact ⟨(cell_later hb2 (cell_later hb1 (cell_later hb0 cBs0_5))), (cell_later hb2 (cell_later hb1 (cell_later hb0 cBs1_5))), (cell_later hb2 (cell_later hb1 (cell_later hb0 cBs2_5))), (cell_later hb2 (cell_later hb1 (cell_later hb0 cBs3_5))), (cell_later hb2 (cell_later hb1 (cell_later hb0 cBs4_5))), (cell_later hb2 (cell_later hb1 (cell_later hb0 cBp0_5))), (cell_later hb2 (cell_later hb1 (cell_later hb0 cBp1_5))), (cell_later hb2 (cell_later hb1 (cell_later hb0 cBt0_5))), (cell_later hb2 (cell_later hb1 (cell_later hb0 cBt1_5)))⟩ | exact ⟨(cell_later hb3 (cell_later hb2 (cell_later hb1 (cell_later hb0 cBs0_5)))), (cell_later hb3 (cell_later hb2 (cell_later hb1 (cell_later hb0 cBs1_5)))), (cell_later hb3 (cell_later hb2 (cell_later hb1 (cell_later hb0 cBs2_5)))), (cell_later hb3 (cell_later hb2 (cell_later hb1 (cell_later hb0 cBs3_5)))), (cell_later hb3 (cell_later hb2 (cell_later hb1 (cell_later hb0 cBs4_5)))), (cell_later hb3 (cell_later hb2 (cell_later hb1 (cell_later hb0 cBp0_5)))), (cell_later hb3 (cell_later hb2 (cell_later hb1 (cell_later hb0 cBp1_5)))), (cell_later hb3 (cell_later hb2 (cell_later hb1 (cell_later hb0 cBt0_5)))), (cell_later hb3 (cell_later hb2 (cell_later hb1 (cell_later hb0 cBt1_5))))⟩)
      (first | (go_at_call 19; refine (store_conv s A cp w5.drew (HA.out.keep HB5.out.drew (Nat.le_refl _)) n9).mono ?_; rintro e w5_0 ⟨A2, cp2, rfl, hs2, hb0⟩; have hB0 := HB5.out.drew.trans (hb0.mono HB5.out.drew.size)) | (go_at_call 21; refine (plan_conv Ac Ak cc ck c k w5_0 n1 n2 (HC.out.keep hB0 (Nat.le_refl _)) (HK.out.keep hB0 (Nat.le_refl _)) c9 k9).mono ?_; rintro e w5_1 ⟨Ac2, Ak2, cc2, ck2, rfl, hc2, hk2, hb1⟩; have hB1 := hB0.trans (hb1.mono hB0.size); have hs3 := hs2.keep hb1 (Nat.le_refl _); have hf1 := HB5.out) | (go_at_call 22; refine (truth_conv Ab cb t bs w5_1 hbn (FB5.out.drew.keep (((Below.refl _ _).trans hb0).trans (hb1.mono hb0.size)) (Nat.le_refl _)) b9).mono ?_; rintro e w5_2 ⟨Ab2, cb2, rfl, hv2, hb2⟩; have hB2 := hB1.trans (hb2.mono hB1.size); have hs4 := hs3.keep hb2 (Nat.le_refl _); have hc3 := hc2.keep hb2 (Nat.le_refl _); have hk3 := hk2.keep hb2 (Nat.le_refl _)) | (go_at_call 20; refine (play_yes' s A2 cp2 Ac2 Ak2 cc2 ck2 c k t Ab2 cb2 bs w5_2 n9s c9s k9s b9s hs4 hc3 hk3 hv2 H0.out HTB.out).mono ?_; rintro e w6 ⟨L1, L2, L3, lc1, lc2, lc3, rfl, hl1, hl2, hl3, hb3⟩; have hB3 := hB2.trans (hb3.mono hB2.size)))
    have hbR : Below w5.drew.heap.size w5.drew w6 := ((((((hb0).trans (hb1.mono (hb0).size))).trans (hb2.mono (((hb0).trans (hb1.mono (hb0).size))).size))).trans (hb3.mono (((((hb0).trans (hb1.mono (hb0).size))).trans (hb2.mono (((hb0).trans (hb1.mono (hb0).size))).size))).size))
    have HB6 := Lib.hid ((HB5.out.drew).trans (hbR.mono (HB5.out.drew).size))
    have NBs6 := Lib.hid ((hbR.block Bs (Array.getElem?_eq_some_iff.1 NBs5.out).1).trans NBs5.out)
    have NBp6 := Lib.hid ((hbR.block Bp (Array.getElem?_eq_some_iff.1 NBp5.out).1).trans NBp5.out)
    have NBt6 := Lib.hid ((hbR.block Bt (Array.getElem?_eq_some_iff.1 NBt5.out).1).trans NBt5.out)
    have FB6 := Lib.hid ((FB5.out.drew).keep hbR (Nat.le_refl _))
    have FD6 := Lib.hid ((FD5.out.drew).keep hbR (Nat.le_refl _))
    have FL16 := Lib.hid hl1
    have FL26 := Lib.hid hl2
    have FL36 := Lib.hid hl3
    clear HB5 NBs5 NBp5 NBt5 cBs0_5 cBs1_5 cBs2_5 cBs3_5 cBs4_5 cBp0_5 cBp1_5 cBt0_5 cBt1_5 FB5 FD5 hl1 hl2 hl3 hbR hb0 hB0 hb1 hB1 hb2 hB2 hb3 hB3 hs2 hc2 hk2 hs3 hv2 hs4 hc3 hk3 hf1
    obtain ⟨cBs0_6, cBs1_6, cBs2_6, cBs3_6, cBs4_6⟩ := cells5 NBs6.out
    obtain ⟨cBp0_6, cBp1_6⟩ := cells2 NBp6.out
    obtain ⟨cBt0_6, cBt1_6⟩ := cells2 NBt6.out
    have ho1 := Lib.hid (fun A2 cp2 Ac2 Ak2 cc2 ck2 Ax cx W x1 x2 x3 x4 => oil_yes s A2 cp2 Ac2 Ak2 cc2 ck2 c k Ax cx dips W x1 x2 x3 x4 HV0.out HCO.out)
    have hdk := Lib.hid (fun A2 cp2 Ac2 Ak2 cc2 ck2 W x1 x2 x3 => dark_yes s A2 cp2 Ac2 Ak2 cc2 ck2 c k W x1 x2 x3 H0.out)
    have hl1 := fun A2 cp2 Ac2 Ak2 cc2 ck2 Ax cx W x1 x2 x3 x4 => leave_yes s A2 cp2 Ac2 Ak2 cc2 ck2 c k Ax cx dips W x1 x2 x3 x4 HV0.out
    rw [(leave_nil HOK.out).2 HCO.out] at hl1
    simp only [List.length_nil] at hl1
    have HL1 := Lib.hid hl1
    clear hl1
    go_wp2_with fail
    go_region_held3 (fun X => X.cell? ⟨Bs, 0, none⟩ = some (.int .i64 s.cap) ∧ X.cell? ⟨Bs, 1, none⟩ = some (.int .i64 s.can) ∧ X.cell? ⟨Bs, 2, none⟩ = some (.int .i64 s.sl) ∧ X.cell? ⟨Bs, 3, none⟩ = some (.int .i64 s.sh) ∧ X.cell? ⟨Bs, 4, none⟩ = some (.slice A s.ns.length cp) ∧ X.cell? ⟨Bp, 0, none⟩ = some (.slice Ac c.length cc) ∧ X.cell? ⟨Bp, 1, none⟩ = some (.slice Ak k.length ck))
      (first | go_keep | exact ⟨(cell_later hb0 cBs0_6), (cell_later hb0 cBs1_6), (cell_later hb0 cBs2_6), (cell_later hb0 cBs3_6), (cell_later hb0 cBs4_6), (cell_later hb0 cBp0_6), (cell_later hb0 cBp1_6)⟩ | exact ⟨(cell_later hb1 (cell_later hb0 cBs0_6)), (cell_later hb1 (cell_later hb0 cBs1_6)), (cell_later hb1 (cell_later hb0 cBs2_6)), (cell_later hb1 (cell_later hb0 cBs3_6)), (cell_later hb1 (cell_later hb0 cBs4_6)), (cell_later hb1 (cell_later hb0 cBp0_6)), (cell_later hb1 (cell_later hb0 cBp1_6))⟩ | exact ⟨(cell_later hb2 (cell_later hb1 (cell_later hb0 cBs0_6))), (cell_later hb2 (cell_later hb1 (cell_later hb0 cBs1_6))), (cell_later hb2 (cell_later hb1 (cell_later hb0 cBs2_6))), (cell_later hb2 (cell_later hb1 (cell_later hb0 cBs3_6))), (cell_later hb2 (cell_later hb1 (cell_later hb0 cBs4_6))), (cell_later hb2 (cell_later hb1 (cell_later hb0 cBp0_6))), (cell_later hb2 (cell_later hb1 (cell_later hb0 cBp1_6)))⟩ | exact ⟨(cell_later hb3 (cell_later hb2 (cell_later hb1 (cell_later hb0 cBs0_6)))), (cell_later hb3 (cell_later hb2 (cell_later hb1 (cell_later hb0 cBs1_6)))), (cell_later hb3 (cell_later hb2 (cell_later hb1 (cell_later hb0 cBs2_6)))), (cell_later hb3 (cell_later hb2 (cell_later hb1 (cell_later hb0 cBs3_6)))), (cell_later hb3 (cell_later hb2 (cell_later hb1 (cell_later hb0 cBs4_6)))), (cell_later hb3 (cell_later hb2 (cell_later hb1 (cell_later hb0 cBp0_6)))), (cell_later hb3 (cell_later hb2 (cell_later hb1 (cell_later hb0 cBp1_6))))⟩)
      (first | (go_at_call 19; refine (store_conv s A cp w6.drew (HA.out.keep HB6.out.drew (Nat.le_refl _)) n9).mono ?_; rintro e w6_0 ⟨A2, cp2, rfl, hs2, hb0⟩; have hB0 := HB6.out.drew.trans (hb0.mono HB6.out.drew.size); have hf1 := (FD6.out.drew).keep hb0 (Nat.le_refl _)) | (go_at_call 21; refine (plan_conv Ac Ak cc ck c k w6_0 n1 n2 (HC.out.keep hB0 (Nat.le_refl _)) (HK.out.keep hB0 (Nat.le_refl _)) c9 k9).mono ?_; rintro e w6_1 ⟨Ac2, Ak2, cc2, ck2, rfl, hc2, hk2, hb1⟩; have hB1 := hB0.trans (hb1.mono hB0.size); have hs3 := hs2.keep hb1 (Nat.le_refl _); have hf2 := hf1.keep hb1 (Nat.le_refl _)) | (go_at_call 31; refine (dips_conv Ad cd dips w6_1 hf2 d9).mono ?_; rintro e w6_2 ⟨Ax, cx, rfl, hdx, hb2⟩; have hB2 := hB1.trans (hb2.mono hB1.size); have hs4 := hs3.keep hb2 (Nat.le_refl _); have hc3 := hc2.keep hb2 (Nat.le_refl _); have hk3 := hk2.keep hb2 (Nat.le_refl _)) | (go_at_call 45; refine (ho1.out A2 cp2 Ac2 Ak2 cc2 ck2 Ax cx w6_2 hs4 hc3 hk3 hdx).mono ?_; rintro e w7 ⟨A1, c1, L, H, rfl, hr1, hra, hb3⟩; have hB3 := hB2.trans (hb3.mono hB2.size)))
    have hbR : Below w6.drew.heap.size w6.drew w7 := ((((((hb0).trans (hb1.mono (hb0).size))).trans (hb2.mono (((hb0).trans (hb1.mono (hb0).size))).size))).trans (hb3.mono (((((hb0).trans (hb1.mono (hb0).size))).trans (hb2.mono (((hb0).trans (hb1.mono (hb0).size))).size))).size))
    have HB7 := Lib.hid ((HB6.out.drew).trans (hbR.mono (HB6.out.drew).size))
    have NBs7 := Lib.hid ((hbR.block Bs (Array.getElem?_eq_some_iff.1 NBs6.out).1).trans NBs6.out)
    have NBp7 := Lib.hid ((hbR.block Bp (Array.getElem?_eq_some_iff.1 NBp6.out).1).trans NBp6.out)
    have NBt7 := Lib.hid ((hbR.block Bt (Array.getElem?_eq_some_iff.1 NBt6.out).1).trans NBt6.out)
    have FB7 := Lib.hid ((FB6.out.drew).keep hbR (Nat.le_refl _))
    have FD7 := Lib.hid ((FD6.out.drew).keep hbR (Nat.le_refl _))
    have FL17 := Lib.hid ((FL16.out.drew).keep hbR (Nat.le_refl _))
    have FL27 := Lib.hid ((FL26.out.drew).keep hbR (Nat.le_refl _))
    have FL37 := Lib.hid ((FL36.out.drew).keep hbR (Nat.le_refl _))
    have FR7 := Lib.hid hra
    clear HB6 NBs6 NBp6 NBt6 cBs0_6 cBs1_6 cBs2_6 cBs3_6 cBs4_6 cBp0_6 cBp1_6 cBt0_6 cBt1_6 FB6 FD6 FL16 FL26 FL36 hra hbR hb0 hB0 hb1 hB1 hb2 hB2 hb3 hB3 hs2 hc2 hk2 hs3 hf1 hf2 hdx hs4 hc3 hk3
    obtain ⟨cBs0_7, cBs1_7, cBs2_7, cBs3_7, cBs4_7⟩ := cells5 NBs7.out
    obtain ⟨cBp0_7, cBp1_7⟩ := cells2 NBp7.out
    obtain ⟨cBt0_7, cBt1_7⟩ := cells2 NBt7.out
    have HR1 := Lib.hid hr1
    clear hr1
    go_wp2_with fail
    go_region_held3 (fun X => X.cell? ⟨Bs, 0, none⟩ = some (.int .i64 s.cap) ∧ X.cell? ⟨Bs, 1, none⟩ = some (.int .i64 s.can) ∧ X.cell? ⟨Bs, 2, none⟩ = some (.int .i64 s.sl) ∧ X.cell? ⟨Bs, 3, none⟩ = some (.int .i64 s.sh) ∧ X.cell? ⟨Bs, 4, none⟩ = some (.slice A s.ns.length cp) ∧ X.cell? ⟨Bp, 0, none⟩ = some (.slice Ac c.length cc) ∧ X.cell? ⟨Bp, 1, none⟩ = some (.slice Ak k.length ck))
      (first | go_keep | exact ⟨(cell_later hb0 cBs0_7), (cell_later hb0 cBs1_7), (cell_later hb0 cBs2_7), (cell_later hb0 cBs3_7), (cell_later hb0 cBs4_7), (cell_later hb0 cBp0_7), (cell_later hb0 cBp1_7)⟩ | exact ⟨(cell_later hb1 (cell_later hb0 cBs0_7)), (cell_later hb1 (cell_later hb0 cBs1_7)), (cell_later hb1 (cell_later hb0 cBs2_7)), (cell_later hb1 (cell_later hb0 cBs3_7)), (cell_later hb1 (cell_later hb0 cBs4_7)), (cell_later hb1 (cell_later hb0 cBp0_7)), (cell_later hb1 (cell_later hb0 cBp1_7))⟩ | exact ⟨(cell_later hb2 (cell_later hb1 (cell_later hb0 cBs0_7))), (cell_later hb2 (cell_later hb1 (cell_later hb0 cBs1_7))), (cell_later hb2 (cell_later hb1 (cell_later hb0 cBs2_7))), (cell_later hb2 (cell_later hb1 (cell_later hb0 cBs3_7))), (cell_later hb2 (cell_later hb1 (cell_later hb0 cBs4_7))), (cell_later hb2 (cell_later hb1 (cell_later hb0 cBp0_7))), (cell_later hb2 (cell_later hb1 (cell_later hb0 cBp1_7)))⟩)
      (first | (go_at_call 19; refine (store_conv s A cp w7.drew (HA.out.keep HB7.out.drew (Nat.le_refl _)) n9).mono ?_; rintro e w7_0 ⟨A2, cp2, rfl, hs2, hb0⟩; have hB0 := HB7.out.drew.trans (hb0.mono HB7.out.drew.size)) | (go_at_call 21; refine (plan_conv Ac Ak cc ck c k w7_0 n1 n2 (HC.out.keep hB0 (Nat.le_refl _)) (HK.out.keep hB0 (Nat.le_refl _)) c9 k9).mono ?_; rintro e w7_1 ⟨Ac2, Ak2, cc2, ck2, rfl, hc2, hk2, hb1⟩; have hB1 := hB0.trans (hb1.mono hB0.size); have hs3 := hs2.keep hb1 (Nat.le_refl _)) | (go_at_call 46; refine (hdk.out A2 cp2 Ac2 Ak2 cc2 ck2 w7_1 hs3 hc2 hk2).mono ?_; rintro e w8 ⟨Da, dca, rfl, hdd, hb2⟩; have hB2 := hB1.trans (hb2.mono hB1.size)))
    have hbR : Below w7.drew.heap.size w7.drew w8 := ((((hb0).trans (hb1.mono (hb0).size))).trans (hb2.mono (((hb0).trans (hb1.mono (hb0).size))).size))
    have HB8 := Lib.hid ((HB7.out.drew).trans (hbR.mono (HB7.out.drew).size))
    have NBs8 := Lib.hid ((hbR.block Bs (Array.getElem?_eq_some_iff.1 NBs7.out).1).trans NBs7.out)
    have NBp8 := Lib.hid ((hbR.block Bp (Array.getElem?_eq_some_iff.1 NBp7.out).1).trans NBp7.out)
    have NBt8 := Lib.hid ((hbR.block Bt (Array.getElem?_eq_some_iff.1 NBt7.out).1).trans NBt7.out)
    have FB8 := Lib.hid ((FB7.out.drew).keep hbR (Nat.le_refl _))
    have FD8 := Lib.hid ((FD7.out.drew).keep hbR (Nat.le_refl _))
    have FL18 := Lib.hid ((FL17.out.drew).keep hbR (Nat.le_refl _))
    have FL28 := Lib.hid ((FL27.out.drew).keep hbR (Nat.le_refl _))
    have FL38 := Lib.hid ((FL37.out.drew).keep hbR (Nat.le_refl _))
    have FR8 := Lib.hid ((FR7.out.drew).keep hbR (Nat.le_refl _))
    have FK8 := Lib.hid hdd
    clear HB7 NBs7 NBp7 NBt7 cBs0_7 cBs1_7 cBs2_7 cBs3_7 cBs4_7 cBp0_7 cBp1_7 cBt0_7 cBt1_7 FB7 FD7 FL17 FL27 FL37 FR7 hdd hbR hb0 hB0 hb1 hB1 hb2 hB2 hs2 hc2 hk2 hs3
    obtain ⟨cBs0_8, cBs1_8, cBs2_8, cBs3_8, cBs4_8⟩ := cells5 NBs8.out
    obtain ⟨cBp0_8, cBp1_8⟩ := cells2 NBp8.out
    obtain ⟨cBt0_8, cBt1_8⟩ := cells2 NBt8.out
    go_wp2_with fail
    go_region_held3 (fun X => X.cell? ⟨Bs, 0, none⟩ = some (.int .i64 s.cap) ∧ X.cell? ⟨Bs, 1, none⟩ = some (.int .i64 s.can) ∧ X.cell? ⟨Bs, 2, none⟩ = some (.int .i64 s.sl) ∧ X.cell? ⟨Bs, 3, none⟩ = some (.int .i64 s.sh) ∧ X.cell? ⟨Bs, 4, none⟩ = some (.slice A s.ns.length cp) ∧ X.cell? ⟨Bp, 0, none⟩ = some (.slice Ac c.length cc) ∧ X.cell? ⟨Bp, 1, none⟩ = some (.slice Ak k.length ck))
      (first | go_keep | exact ⟨(cell_later hb0 cBs0_8), (cell_later hb0 cBs1_8), (cell_later hb0 cBs2_8), (cell_later hb0 cBs3_8), (cell_later hb0 cBs4_8), (cell_later hb0 cBp0_8), (cell_later hb0 cBp1_8)⟩ | exact ⟨(cell_later hb1 (cell_later hb0 cBs0_8)), (cell_later hb1 (cell_later hb0 cBs1_8)), (cell_later hb1 (cell_later hb0 cBs2_8)), (cell_later hb1 (cell_later hb0 cBs3_8)), (cell_later hb1 (cell_later hb0 cBs4_8)), (cell_later hb1 (cell_later hb0 cBp0_8)), (cell_later hb1 (cell_later hb0 cBp1_8))⟩ | exact ⟨(cell_later hb2 (cell_later hb1 (cell_later hb0 cBs0_8))), (cell_later hb2 (cell_later hb1 (cell_later hb0 cBs1_8))), (cell_later hb2 (cell_later hb1 (cell_later hb0 cBs2_8))), (cell_later hb2 (cell_later hb1 (cell_later hb0 cBs3_8))), (cell_later hb2 (cell_later hb1 (cell_later hb0 cBs4_8))), (cell_later hb2 (cell_later hb1 (cell_later hb0 cBp0_8))), (cell_later hb2 (cell_later hb1 (cell_later hb0 cBp1_8)))⟩ | exact ⟨(cell_later hb3 (cell_later hb2 (cell_later hb1 (cell_later hb0 cBs0_8)))), (cell_later hb3 (cell_later hb2 (cell_later hb1 (cell_later hb0 cBs1_8)))), (cell_later hb3 (cell_later hb2 (cell_later hb1 (cell_later hb0 cBs2_8)))), (cell_later hb3 (cell_later hb2 (cell_later hb1 (cell_later hb0 cBs3_8)))), (cell_later hb3 (cell_later hb2 (cell_later hb1 (cell_later hb0 cBs4_8)))), (cell_later hb3 (cell_later hb2 (cell_later hb1 (cell_later hb0 cBp0_8)))), (cell_later hb3 (cell_later hb2 (cell_later hb1 (cell_later hb0 cBp1_8))))⟩)
      (first | (go_at_call 19; refine (store_conv s A cp w8.drew (HA.out.keep HB8.out.drew (Nat.le_refl _)) n9).mono ?_; rintro e w8_0 ⟨A2, cp2, rfl, hs2, hb0⟩; have hB0 := HB8.out.drew.trans (hb0.mono HB8.out.drew.size); have hf1 := (FD8.out.drew).keep hb0 (Nat.le_refl _)) | (go_at_call 21; refine (plan_conv Ac Ak cc ck c k w8_0 n1 n2 (HC.out.keep hB0 (Nat.le_refl _)) (HK.out.keep hB0 (Nat.le_refl _)) c9 k9).mono ?_; rintro e w8_1 ⟨Ac2, Ak2, cc2, ck2, rfl, hc2, hk2, hb1⟩; have hB1 := hB0.trans (hb1.mono hB0.size); have hs3 := hs2.keep hb1 (Nat.le_refl _); have hf2 := hf1.keep hb1 (Nat.le_refl _)) | (go_at_call 31; refine (dips_conv Ad cd dips w8_1 hf2 d9).mono ?_; rintro e w8_2 ⟨Ax, cx, rfl, hdx, hb2⟩; have hB2 := hB1.trans (hb2.mono hB1.size); have hs4 := hs3.keep hb2 (Nat.le_refl _); have hc3 := hc2.keep hb2 (Nat.le_refl _); have hk3 := hk2.keep hb2 (Nat.le_refl _)) | (go_at_call 30; refine (HL1.out A2 cp2 Ac2 Ak2 cc2 ck2 Ax cx w8_2 hs4 hc3 hk3 hdx).mono ?_; rintro e w9 ⟨A5, c5, rfl, hlv, hb3⟩; have hB3 := hB2.trans (hb3.mono hB2.size)))
    have hbR : Below w8.drew.heap.size w8.drew w9 := ((((((hb0).trans (hb1.mono (hb0).size))).trans (hb2.mono (((hb0).trans (hb1.mono (hb0).size))).size))).trans (hb3.mono (((((hb0).trans (hb1.mono (hb0).size))).trans (hb2.mono (((hb0).trans (hb1.mono (hb0).size))).size))).size))
    have HB9 := Lib.hid ((HB8.out.drew).trans (hbR.mono (HB8.out.drew).size))
    have NBs9 := Lib.hid ((hbR.block Bs (Array.getElem?_eq_some_iff.1 NBs8.out).1).trans NBs8.out)
    have NBp9 := Lib.hid ((hbR.block Bp (Array.getElem?_eq_some_iff.1 NBp8.out).1).trans NBp8.out)
    have NBt9 := Lib.hid ((hbR.block Bt (Array.getElem?_eq_some_iff.1 NBt8.out).1).trans NBt8.out)
    have FB9 := Lib.hid ((FB8.out.drew).keep hbR (Nat.le_refl _))
    have FD9 := Lib.hid ((FD8.out.drew).keep hbR (Nat.le_refl _))
    have FL19 := Lib.hid ((FL18.out.drew).keep hbR (Nat.le_refl _))
    have FL29 := Lib.hid ((FL28.out.drew).keep hbR (Nat.le_refl _))
    have FL39 := Lib.hid ((FL38.out.drew).keep hbR (Nat.le_refl _))
    have FR9 := Lib.hid ((FR8.out.drew).keep hbR (Nat.le_refl _))
    have FK9 := Lib.hid ((FK8.out.drew).keep hbR (Nat.le_refl _))
    clear HB8 NBs8 NBp8 NBt8 cBs0_8 cBs1_8 cBs2_8 cBs3_8 cBs4_8 cBp0_8 cBp1_8 cBt0_8 cBt1_8 FB8 FD8 FL18 FL28 FL38 FR8 FK8 hbR hb0 hB0 hb1 hB1 hb2 hB2 hb3 hB3 hs2 hc2 hk2 hs3 hf1 hf2 hdx hs4 hc3 hk3
    obtain ⟨cBs0_9, cBs1_9, cBs2_9, cBs3_9, cBs4_9⟩ := cells5 NBs9.out
    obtain ⟨cBp0_9, cBp1_9⟩ := cells2 NBp9.out
    obtain ⟨cBt0_9, cBt1_9⟩ := cells2 NBt9.out
    clear hlv ho1 hdk HL1
    have hnn : ((s.ns.length : Int) != (s.ns.length : Int)) = false := by simp
    have HNK := Lib.hid (fun j (hj : j < s.ns.length) => night_ok HOK.out HPL.out HTR.out HAG.out HR1.out hj)
    have hdl := darkTo_len s (atL c) (atL k) s.ns.length
    have hdl6 : (darkL s (atL c) (atL k)).length ≤ 1000000 := by unfold darkL; omega
    clear hdl
    go_wp2_with fail
    go_loopw [21, 22] (TrRel s (atL c) (atL k) (atL bs) t w9) (fun _ i _ => s.ns.length - (intOf i).toNat)
    case atStart => exact ⟨0, by omega, rfl, rfl, Below.refl _ _⟩
    case round =>
      obtain ⟨j, hj, rfl, rfl, hbe⟩ := hrel
      have HX := Lib.hid hbe
      clear cBs0_9 cBs1_9 cBs2_9 cBs3_9 cBs4_9 cBp0_9 cBp1_9 cBt0_9 cBt1_9
      obtain ⟨s0, s1, s2, s3, s4⟩ := cells5 ((hbe.block Bs (Array.getElem?_eq_some_iff.1 NBs9.out).1).trans NBs9.out)
      obtain ⟨p0, p1⟩ := cells2 ((hbe.block Bp (Array.getElem?_eq_some_iff.1 NBp9.out).1).trans NBp9.out)
      obtain ⟨t0, t1⟩ := cells2 ((hbe.block Bt (Array.getElem?_eq_some_iff.1 NBt9.out).1).trans NBt9.out)
      have hBX := HB9.out.trans (hbe.mono HB9.out.size)
      have HBX := Lib.hid hBX
      clear hbe hBX
      by_cases hlt : j < s.ns.length
      · have hlt' : decide ((j : Int) < (s.ns.length : Int)) = true := by simpa using hlt
        have hlc := HLC.out
        have hlk := HLK.out
        have hlb := HBLN.out
        have i0 : (0 : Int) ≤ (j : Int) := by omega
        have i1 : (j : Int) < (s.ns.length : Int) := by omega
        have i2 : (j : Int) < (c.length : Int) := by omega
        have i3 : (j : Int) < (k.length : Int) := by omega
        have i4 : (j : Int) < (bs.length : Int) := by omega
        obtain ⟨b, o, rfl, a0, a1, a2, a3, a4⟩ := (HA.out.keep HBX.out (Nat.le_refl _)).at hlt
        rw [← ntAt_at hlt] at a0
        obtain ⟨bc, oc, rfl, d0⟩ := (HC.out.keep HBX.out (Nat.le_refl _)).at (k := j) (by omega)
        obtain ⟨bk, ok, rfl, d1⟩ := (HK.out.keep HBX.out (Nat.le_refl _)).at (k := j) (by omega)
        obtain ⟨bb, ob, rfl, d2⟩ := (FB9.out.keep HX.out (Nat.le_refl _)).at (k := j) (by omega)
        have e1 := leftsL_len s (atL c) (atL k) (atL bs) t s.ns.length
        have e2 := backsL_len s (atL c) (atL k) (atL bs) t s.ns.length
        have e3 := litsL_len s (atL c) (atL k) (atL bs) t s.ns.length
        obtain ⟨q1, r1, rfl, f1⟩ := (FL19.out.keep HX.out (Nat.le_refl _)).at (k := j) (by omega)
        obtain ⟨q2, r2, rfl, f2⟩ := (FL29.out.keep HX.out (Nat.le_refl _)).at (k := j) (by omega)
        obtain ⟨q3, r3, rfl, f3⟩ := (FL39.out.keep HX.out (Nat.le_refl _)).at2 (k := j) (by omega)
        obtain ⟨q4, r4, rfl, g0, g1⟩ := (FR9.out.keep HX.out (Nat.le_refl _)).at_ hlt
        rw [leftsL_at _ _ _ _ _ hlt] at f1
        rw [backsL_at _ _ _ _ _ hlt] at f2
        rw [litsL_at _ _ _ _ _ hlt] at f3
        have hno := HNK.out j hlt
        have hcan := HOK.out.k0
        have hcan1 := HOK.out.k1
        have hcap := HOK.out.c0
        have hcap1 := HOK.out.c1
        have hcj := HPL.out.nn HOK.out hlt
        have hbj := HTR.out.nn HOK.out hlt
        have hnt := HOK.out.nt j hlt
        have hoj := oilF_bd HOK.out HPL.out HTR.out (i := j) (by omega)
        have m0 : 0 ≤ atL c j * s.can := Int.mul_nonneg (by omega) (by omega)
        have m1 : atL c j * s.can ≤ 2 * 200 := Int.mul_le_mul (by omega) hcan1 (by omega) (by omega)
        have p0' : 0 ≤ (ntAt s j).h * atL k j := Int.mul_nonneg (by omega) (by omega)
        have p1' : (ntAt s j).h * atL k j ≤ 14 * 4 := Int.mul_le_mul (by omega) (by omega) (by omega) (by omega)
        have p2' : 0 ≤ (ntAt s j).h * atL k j * atL bs j := Int.mul_nonneg p0' (by omega)
        have p3' : (ntAt s j).h * atL k j * atL bs j ≤ 56 * 10 := Int.mul_le_mul p1' (by omega) (by omega) (by omega)
        have HNX := Lib.hid (show oilF s (atL c) (atL k) (atL bs) t (j + 1) = oilF s (atL c) (atL k) (atL bs) t (j + 1) from rfl)
        generalize nowO s (atL c j) (oilF s (atL c) (atL k) (atL bs) t j) = NOW at hno f2
        generalize litO s j (atL c j) (atL k j) (atL bs j) (oilF s (atL c) (atL k) (atL bs) t j) = LT at hno f3
        obtain ⟨LF, hLF⟩ : ∃ x, oilF s (atL c) (atL k) (atL bs) t (j + 1) = x := ⟨_, rfl⟩
        rw [hLF] at hno f1
        have HLF := Lib.hid hLF
        generalize oilF s (atL c) (atL k) (atL bs) t j = O at hno f2 hoj ⊢
        obtain ⟨M, hM⟩ : ∃ x, atL c j * s.can = x := ⟨_, rfl⟩
        obtain ⟨PP, hPP⟩ : ∃ x, (ntAt s j).h * atL k j = x := ⟨_, rfl⟩
        rw [hM] at hno f2 m0 m1
        rw [hPP] at hno p0' p1' p2' p3'
        obtain ⟨N, hN⟩ : ∃ x, PP * atL bs j = x := ⟨_, rfl⟩
        rw [hN] at hno p2' p3'
        obtain ⟨BK, hBK⟩ : ∃ x, O + M - NOW = x := ⟨_, rfl⟩
        rw [hBK] at hno f2
        obtain ⟨U, hU⟩ : ∃ x, NOW - LF = x := ⟨_, rfl⟩
        rw [hU] at hno
        obtain ⟨T, hT⟩ : ∃ x, O + M = x := ⟨_, rfl⟩
        have wm : IntKind.i64.wrap (atL c j * s.can) = M := by rw [hM]; exact IntWalk.i64_in _ (by omega)
        have wpp : IntKind.i64.wrap ((ntAt s j).h * atL k j) = PP := by rw [hPP]; exact IntWalk.i64_in _ (by omega)
        have wn : IntKind.i64.wrap (PP * atL bs j) = N := by rw [hN]; exact IntWalk.i64_in _ (by omega)
        obtain ⟨hnow, hu, hb0, hb1, hl0, hl1, hcp, hn0, hfull, hlo, hhi, hlit, hdrk⟩ := hno
        have wt : IntKind.i64.wrap (O + M) = T := by rw [hT]; exact IntWalk.i64_in _ (by omega)
        have wb : IntKind.i64.wrap (T - BK) = NOW := by rw [IntWalk.i64_in _ (by omega)]; omega
        have wu : IntKind.i64.wrap (NOW - LF) = U := by rw [IntWalk.i64_in _ (by omega)]; omega
        have wul : IntKind.i64.wrap (U + LF) = NOW := by rw [IntWalk.i64_in _ (by omega)]; omega
        have z1 : decide (BK < 0) = false := by simp; omega
        have z2 : decide (LF < 0) = false := by simp; omega
        have z3 : decide (NOW > s.cap) = false := by simp; omega
        have z3' : decide (s.cap < NOW) = false := by simp; omega
        have z4 : decide (LF < L j) = false := by simp; omega
        have z5 : decide (LF > H j) = false := by simp; omega
        have z5' : decide (H j < LF) = false := by simp; omega
        have hhas := Lib.hid (fun W (hW : Below w9.heap.size w9 W) => rhas_any (.slice Da (darkL s (atL c) (atL k)).length dca) (darkL s (atL c) (atL k)) (j : Int) W (FK9.out.keep hW (Nat.le_refl _)) hdl6)
        have HLIT := Lib.hid hlit
        have HDRK := Lib.hid hdrk
        have HFUL := Lib.hid hfull
        have hb00 := hb0
        generalize L j = lo at g0 z4
        generalize H j = hi at g1 z5 z5'
        generalize atL c j = CC at d0 wm
        generalize atL k j = KK at d1 wpp
        generalize atL bs j = BB at d2 wn
        generalize (ntAt s j).h = HH at a0 wpp
        clear hM hPP hN hBK hU hT hLF hnow hu hb0 hb1 hl0 hl1 hcp hn0 hfull hlo hhi hlit hdrk m0 m1 p0' p1' p2' p3' hcan hcan1 hcap hcap1 hcj hbj hnt hoj hlc hlk hlb e1 e2 e3 a1 a2 a3 a4 HNX
        go_wp2_with fail
        go_quiet (fail)
        go_wp2_with fail
        go_quiet (fail)
        go_upto_region 17 with fail
        go_cut [246] from 173 to 246 (TrCut wr)
        case first =>
          by_cases hbk : 0 < BK
          · have z6 : decide (BK > 0) = true := by simp; omega
            have z6' : decide (0 < BK) = true := by simp; omega
            have z7 : (NOW != s.cap) = false := by have := HFUL.out hbk; simp [this]
            clear hbk
            refine wp_region_held_drew (S := fun X => X.cell? ⟨q2, r2 + j, none⟩ = some (.int .i64 BK) ∧ X.cell? ⟨q1, r1 + j, none⟩ = some (.int .i64 LF) ∧ X.cell? ⟨Bp, 0, none⟩ = some (.slice (some ⟨bc, oc, none⟩) c.length cc) ∧ X.cell? ⟨bc, oc + j, none⟩ = some (.int .i64 CC) ∧ X.cell? ⟨Bs, 1, none⟩ = some (.int .i64 s.can) ∧ X.cell? ⟨Bs, 0, none⟩ = some (.int .i64 s.cap) ∧ X.cell? ⟨q4, r4 + j * 2, none⟩ = some (.int .i64 lo) ∧ X.cell? ⟨q4, r4 + j * 2 + 1, none⟩ = some (.int .i64 hi)) (by kernel_rfl) (⟨f2, f1, p0, d0, s1, s0, g0, g1⟩) (fun hS0 => ?_)
            refine tkX 0 ⟨some 173, .move (.tmp 12), 27, "outright.go:126", #[], none⟩ (v := ?_) hS0 ?_ ?_
            rotate_left
            · intro X ⟨x0, x1, x2, x3, x4, x5, x6, x7⟩; go_simp; try with_reducible rfl
            simp only [Act.put, List.setIfInBounds_toArray, List.set_cons_zero, List.set_cons_succ, Array.toArray_toList]
            refine tkX 1 ⟨some 174, .move (.tmp 22), 3, "outright.go:126", #[], none⟩ (v := ?_) hS0 ?_ ?_
            rotate_left
            · intro X ⟨x0, x1, x2, x3, x4, x5, x6, x7⟩; go_simp; try with_reducible rfl
            simp only [Act.put, List.setIfInBounds_toArray, List.set_cons_zero, List.set_cons_succ, Array.toArray_toList]
            refine tkX 2 ⟨some 175, .indexAddr 27 (.tmp 173) (.tmp 174), 0, "outright.go:126", #[⟨0, .data⟩, ⟨1, .data⟩], none⟩ (v := ?_) hS0 ?_ ?_
            rotate_left
            · intro X ⟨x0, x1, x2, x3, x4, x5, x6, x7⟩; go_simp; try with_reducible rfl
            simp only [Act.put, List.setIfInBounds_toArray, List.set_cons_zero, List.set_cons_succ, Array.toArray_toList]
            refine tkX 3 ⟨some 176, .load 3 (.tmp 175), 3, "outright.go:126", #[⟨2, .data⟩], none⟩ (v := ?_) hS0 ?_ ?_
            rotate_left
            · intro X ⟨x0, x1, x2, x3, x4, x5, x6, x7⟩; go_simp; try with_reducible rfl
            simp only [Act.put, List.setIfInBounds_toArray, List.set_cons_zero, List.set_cons_succ, Array.toArray_toList]
            refine tkX 4 ⟨some 177, .binOp .lss 3 (.tmp 176) (.const (.int .i64 0)) 3, 4, "outright.go:126", #[⟨3, .data⟩], none⟩ (v := ?_) hS0 ?_ ?_
            rotate_left
            · intro X ⟨x0, x1, x2, x3, x4, x5, x6, x7⟩; go_simp; try with_reducible rfl
            simp only [Act.put, List.setIfInBounds_toArray, List.set_cons_zero, List.set_cons_succ, Array.toArray_toList]
            refine tkX 5 ⟨some 178, .move (.tmp 177), 4, "outright.go:126", #[⟨4, .data⟩], none⟩ (v := ?_) hS0 ?_ ?_
            rotate_left
            · intro X ⟨x0, x1, x2, x3, x4, x5, x6, x7⟩; go_simp; try with_reducible rfl
            simp only [Act.put, List.setIfInBounds_toArray, List.set_cons_zero, List.set_cons_succ, Array.toArray_toList]
            refine tkX 6 ⟨some 179, .move (.tmp 11), 27, "outright.go:126", #[⟨5, .guard⟩], some (5, false)⟩ (v := ?_) hS0 ?_ ?_
            rotate_left
            · intro X ⟨x0, x1, x2, x3, x4, x5, x6, x7⟩; go_simp; try with_reducible rfl
            simp only [Act.put, List.setIfInBounds_toArray, List.set_cons_zero, List.set_cons_succ, Array.toArray_toList]
            refine tkX 7 ⟨some 180, .move (.tmp 22), 3, "outright.go:126", #[⟨5, .guard⟩], some (5, false)⟩ (v := ?_) hS0 ?_ ?_
            rotate_left
            · intro X ⟨x0, x1, x2, x3, x4, x5, x6, x7⟩; go_simp; try with_reducible rfl
            simp only [Act.put, List.setIfInBounds_toArray, List.set_cons_zero, List.set_cons_succ, Array.toArray_toList]
            refine tkX 8 ⟨some 181, .indexAddr 27 (.tmp 179) (.tmp 180), 0, "outright.go:126", #[⟨6, .data⟩, ⟨7, .data⟩, ⟨5, .guard⟩], some (5, false)⟩ (v := ?_) hS0 ?_ ?_
            rotate_left
            · intro X ⟨x0, x1, x2, x3, x4, x5, x6, x7⟩; go_simp; try with_reducible rfl
            simp only [Act.put, List.setIfInBounds_toArray, List.set_cons_zero, List.set_cons_succ, Array.toArray_toList]
            refine tkX 9 ⟨some 182, .load 3 (.tmp 181), 3, "outright.go:126", #[⟨8, .data⟩, ⟨5, .guard⟩], some (5, false)⟩ (v := ?_) hS0 ?_ ?_
            rotate_left
            · intro X ⟨x0, x1, x2, x3, x4, x5, x6, x7⟩; go_simp; try with_reducible rfl
            simp only [Act.put, List.setIfInBounds_toArray, List.set_cons_zero, List.set_cons_succ, Array.toArray_toList]
            refine tkX 10 ⟨some 183, .binOp .lss 3 (.tmp 182) (.const (.int .i64 0)) 3, 4, "outright.go:126", #[⟨9, .data⟩, ⟨5, .guard⟩], some (5, false)⟩ (v := ?_) hS0 ?_ ?_
            rotate_left
            · intro X ⟨x0, x1, x2, x3, x4, x5, x6, x7⟩; go_simp; try with_reducible rfl
            simp only [Act.put, List.setIfInBounds_toArray, List.set_cons_zero, List.set_cons_succ, Array.toArray_toList]
            refine tkX 11 ⟨some 184, .pick (.tmp 178) (.const (.bool true)) (.tmp 183), 4, "outright.go:126", #[⟨5, .data⟩, ⟨10, .data⟩], none⟩ (v := ?_) hS0 ?_ ?_
            rotate_left
            · intro X ⟨x0, x1, x2, x3, x4, x5, x6, x7⟩; go_simp; try with_reducible rfl
            simp only [Act.put, List.setIfInBounds_toArray, List.set_cons_zero, List.set_cons_succ, Array.toArray_toList]
            refine tkX 12 ⟨some 185, .move (.tmp 184), 4, "outright.go:126", #[⟨11, .data⟩, ⟨5, .chain⟩], none⟩ (v := ?_) hS0 ?_ ?_
            rotate_left
            · intro X ⟨x0, x1, x2, x3, x4, x5, x6, x7⟩; go_simp; try with_reducible rfl
            simp only [Act.put, List.setIfInBounds_toArray, List.set_cons_zero, List.set_cons_succ, Array.toArray_toList]
            refine tkX 13 ⟨some 186, .move (.tmp 21), 3, "outright.go:126", #[⟨12, .guard⟩], some (12, false)⟩ (v := ?_) hS0 ?_ ?_
            rotate_left
            · intro X ⟨x0, x1, x2, x3, x4, x5, x6, x7⟩; go_simp; try with_reducible rfl
            simp only [Act.put, List.setIfInBounds_toArray, List.set_cons_zero, List.set_cons_succ, Array.toArray_toList]
            refine tkX 14 ⟨some 187, .fieldAddr 29 (.tmp 5) 0, 0, "outright.go:126", #[⟨12, .guard⟩], some (12, false)⟩ (v := ?_) hS0 ?_ ?_
            rotate_left
            · intro X ⟨x0, x1, x2, x3, x4, x5, x6, x7⟩; go_simp; try with_reducible rfl
            simp only [Act.put, List.setIfInBounds_toArray, List.set_cons_zero, List.set_cons_succ, Array.toArray_toList]
            refine tkX 15 ⟨some 188, .load 27 (.tmp 187), 27, "outright.go:126", #[⟨14, .data⟩, ⟨12, .guard⟩], some (12, false)⟩ (v := ?_) hS0 ?_ ?_
            rotate_left
            · intro X ⟨x0, x1, x2, x3, x4, x5, x6, x7⟩; go_simp; try with_reducible rfl
            simp only [Act.put, List.setIfInBounds_toArray, List.set_cons_zero, List.set_cons_succ, Array.toArray_toList]
            refine tkX 16 ⟨some 189, .move (.tmp 22), 3, "outright.go:126", #[⟨12, .guard⟩], some (12, false)⟩ (v := ?_) hS0 ?_ ?_
            rotate_left
            · intro X ⟨x0, x1, x2, x3, x4, x5, x6, x7⟩; go_simp; try with_reducible rfl
            simp only [Act.put, List.setIfInBounds_toArray, List.set_cons_zero, List.set_cons_succ, Array.toArray_toList]
            refine tkX 17 ⟨some 190, .indexAddr 27 (.tmp 188) (.tmp 189), 0, "outright.go:126", #[⟨15, .data⟩, ⟨16, .data⟩, ⟨12, .guard⟩], some (12, false)⟩ (v := ?_) hS0 ?_ ?_
            rotate_left
            · intro X ⟨x0, x1, x2, x3, x4, x5, x6, x7⟩; go_simp; try with_reducible rfl
            simp only [Act.put, List.setIfInBounds_toArray, List.set_cons_zero, List.set_cons_succ, Array.toArray_toList]
            refine tkX 18 ⟨some 191, .load 3 (.tmp 190), 3, "outright.go:126", #[⟨17, .data⟩, ⟨12, .guard⟩], some (12, false)⟩ (v := ?_) hS0 ?_ ?_
            rotate_left
            · intro X ⟨x0, x1, x2, x3, x4, x5, x6, x7⟩; go_simp; try with_reducible rfl
            simp only [Act.put, List.setIfInBounds_toArray, List.set_cons_zero, List.set_cons_succ, Array.toArray_toList]
            refine tkX 19 ⟨some 192, .fieldAddr 26 (.tmp 4) 1, 0, "outright.go:126", #[⟨12, .guard⟩], some (12, false)⟩ (v := ?_) hS0 ?_ ?_
            rotate_left
            · intro X ⟨x0, x1, x2, x3, x4, x5, x6, x7⟩; go_simp; try with_reducible rfl
            simp only [Act.put, List.setIfInBounds_toArray, List.set_cons_zero, List.set_cons_succ, Array.toArray_toList]
            refine tkX 20 ⟨some 193, .load 3 (.tmp 192), 3, "outright.go:126", #[⟨19, .data⟩, ⟨12, .guard⟩], some (12, false)⟩ (v := ?_) hS0 ?_ ?_
            rotate_left
            · intro X ⟨x0, x1, x2, x3, x4, x5, x6, x7⟩; go_simp; try with_reducible rfl
            simp only [Act.put, List.setIfInBounds_toArray, List.set_cons_zero, List.set_cons_succ, Array.toArray_toList]
            refine tkX 21 ⟨some 194, .binOp .mul 3 (.tmp 191) (.tmp 193) 3, 3, "outright.go:126", #[⟨18, .data⟩, ⟨20, .data⟩, ⟨12, .guard⟩], some (12, false)⟩ (v := ?_) hS0 ?_ ?_
            rotate_left
            · intro X ⟨x0, x1, x2, x3, x4, x5, x6, x7⟩; go_simp; try with_reducible rfl
            simp only [Act.put, List.setIfInBounds_toArray, List.set_cons_zero, List.set_cons_succ, Array.toArray_toList]
            refine tkX 22 ⟨some 195, .binOp .add 3 (.tmp 186) (.tmp 194) 3, 3, "outright.go:126", #[⟨13, .data⟩, ⟨21, .data⟩, ⟨12, .guard⟩], some (12, false)⟩ (v := ?_) hS0 ?_ ?_
            rotate_left
            · intro X ⟨x0, x1, x2, x3, x4, x5, x6, x7⟩; go_simp; try with_reducible rfl
            simp only [Act.put, List.setIfInBounds_toArray, List.set_cons_zero, List.set_cons_succ, Array.toArray_toList]
            refine tkX 23 ⟨some 196, .move (.tmp 12), 27, "outright.go:126", #[⟨12, .guard⟩], some (12, false)⟩ (v := ?_) hS0 ?_ ?_
            rotate_left
            · intro X ⟨x0, x1, x2, x3, x4, x5, x6, x7⟩; go_simp; try with_reducible rfl
            simp only [Act.put, List.setIfInBounds_toArray, List.set_cons_zero, List.set_cons_succ, Array.toArray_toList]
            refine tkX 24 ⟨some 197, .move (.tmp 22), 3, "outright.go:126", #[⟨12, .guard⟩], some (12, false)⟩ (v := ?_) hS0 ?_ ?_
            rotate_left
            · intro X ⟨x0, x1, x2, x3, x4, x5, x6, x7⟩; go_simp; try with_reducible rfl
            simp only [Act.put, List.setIfInBounds_toArray, List.set_cons_zero, List.set_cons_succ, Array.toArray_toList]
            refine tkX 25 ⟨some 198, .indexAddr 27 (.tmp 196) (.tmp 197), 0, "outright.go:126", #[⟨23, .data⟩, ⟨24, .data⟩, ⟨12, .guard⟩], some (12, false)⟩ (v := ?_) hS0 ?_ ?_
            rotate_left
            · intro X ⟨x0, x1, x2, x3, x4, x5, x6, x7⟩; go_simp; try with_reducible rfl
            simp only [Act.put, List.setIfInBounds_toArray, List.set_cons_zero, List.set_cons_succ, Array.toArray_toList]
            refine tkX 26 ⟨some 199, .load 3 (.tmp 198), 3, "outright.go:126", #[⟨25, .data⟩, ⟨12, .guard⟩], some (12, false)⟩ (v := ?_) hS0 ?_ ?_
            rotate_left
            · intro X ⟨x0, x1, x2, x3, x4, x5, x6, x7⟩; go_simp; try with_reducible rfl
            simp only [Act.put, List.setIfInBounds_toArray, List.set_cons_zero, List.set_cons_succ, Array.toArray_toList]
            refine tkX 27 ⟨some 200, .binOp .sub 3 (.tmp 195) (.tmp 199) 3, 3, "outright.go:126", #[⟨22, .data⟩, ⟨26, .data⟩, ⟨12, .guard⟩], some (12, false)⟩ (v := ?_) hS0 ?_ ?_
            rotate_left
            · intro X ⟨x0, x1, x2, x3, x4, x5, x6, x7⟩; go_simp; try with_reducible rfl
            simp only [Act.put, List.setIfInBounds_toArray, List.set_cons_zero, List.set_cons_succ, Array.toArray_toList]
            refine tkX 28 ⟨some 201, .fieldAddr 26 (.tmp 4) 0, 0, "outright.go:126", #[⟨12, .guard⟩], some (12, false)⟩ (v := ?_) hS0 ?_ ?_
            rotate_left
            · intro X ⟨x0, x1, x2, x3, x4, x5, x6, x7⟩; go_simp; try with_reducible rfl
            simp only [Act.put, List.setIfInBounds_toArray, List.set_cons_zero, List.set_cons_succ, Array.toArray_toList]
            refine tkX 29 ⟨some 202, .load 3 (.tmp 201), 3, "outright.go:126", #[⟨28, .data⟩, ⟨12, .guard⟩], some (12, false)⟩ (v := ?_) hS0 ?_ ?_
            rotate_left
            · intro X ⟨x0, x1, x2, x3, x4, x5, x6, x7⟩; go_simp; try with_reducible rfl
            simp only [Act.put, List.setIfInBounds_toArray, List.set_cons_zero, List.set_cons_succ, Array.toArray_toList]
            refine tkX 30 ⟨some 203, .binOp .gtr 3 (.tmp 200) (.tmp 202) 3, 4, "outright.go:126", #[⟨27, .data⟩, ⟨29, .data⟩, ⟨12, .guard⟩], some (12, false)⟩ (v := ?_) hS0 ?_ ?_
            rotate_left
            · intro X ⟨x0, x1, x2, x3, x4, x5, x6, x7⟩; go_simp; try with_reducible rfl
            simp only [Act.put, List.setIfInBounds_toArray, List.set_cons_zero, List.set_cons_succ, Array.toArray_toList]
            refine tkX 31 ⟨some 204, .pick (.tmp 185) (.const (.bool true)) (.tmp 203), 4, "outright.go:126", #[⟨12, .data⟩, ⟨30, .data⟩], none⟩ (v := ?_) hS0 ?_ ?_
            rotate_left
            · intro X ⟨x0, x1, x2, x3, x4, x5, x6, x7⟩; go_simp; try with_reducible rfl
            simp only [Act.put, List.setIfInBounds_toArray, List.set_cons_zero, List.set_cons_succ, Array.toArray_toList]
            refine tkX 32 ⟨some 205, .move (.tmp 204), 4, "outright.go:126", #[⟨31, .data⟩, ⟨12, .chain⟩], none⟩ (v := ?_) hS0 ?_ ?_
            rotate_left
            · intro X ⟨x0, x1, x2, x3, x4, x5, x6, x7⟩; go_simp; try with_reducible rfl
            simp only [Act.put, List.setIfInBounds_toArray, List.set_cons_zero, List.set_cons_succ, Array.toArray_toList]
            refine tkX 33 ⟨some 206, .move (.tmp 12), 27, "outright.go:126", #[⟨32, .guard⟩], some (32, false)⟩ (v := ?_) hS0 ?_ ?_
            rotate_left
            · intro X ⟨x0, x1, x2, x3, x4, x5, x6, x7⟩; go_simp; try with_reducible rfl
            simp only [Act.put, List.setIfInBounds_toArray, List.set_cons_zero, List.set_cons_succ, Array.toArray_toList]
            refine tkX 34 ⟨some 207, .move (.tmp 22), 3, "outright.go:126", #[⟨32, .guard⟩], some (32, false)⟩ (v := ?_) hS0 ?_ ?_
            rotate_left
            · intro X ⟨x0, x1, x2, x3, x4, x5, x6, x7⟩; go_simp; try with_reducible rfl
            simp only [Act.put, List.setIfInBounds_toArray, List.set_cons_zero, List.set_cons_succ, Array.toArray_toList]
            refine tkX 35 ⟨some 208, .indexAddr 27 (.tmp 206) (.tmp 207), 0, "outright.go:126", #[⟨33, .data⟩, ⟨34, .data⟩, ⟨32, .guard⟩], some (32, false)⟩ (v := ?_) hS0 ?_ ?_
            rotate_left
            · intro X ⟨x0, x1, x2, x3, x4, x5, x6, x7⟩; go_simp; try with_reducible rfl
            simp only [Act.put, List.setIfInBounds_toArray, List.set_cons_zero, List.set_cons_succ, Array.toArray_toList]
            refine tkX 36 ⟨some 209, .load 3 (.tmp 208), 3, "outright.go:126", #[⟨35, .data⟩, ⟨32, .guard⟩], some (32, false)⟩ (v := ?_) hS0 ?_ ?_
            rotate_left
            · intro X ⟨x0, x1, x2, x3, x4, x5, x6, x7⟩; go_simp; try with_reducible rfl
            simp only [Act.put, List.setIfInBounds_toArray, List.set_cons_zero, List.set_cons_succ, Array.toArray_toList]
            refine tkX 37 ⟨some 210, .binOp .gtr 3 (.tmp 209) (.const (.int .i64 0)) 3, 4, "outright.go:126", #[⟨36, .data⟩, ⟨32, .guard⟩], some (32, false)⟩ (v := ?_) hS0 ?_ ?_
            rotate_left
            · intro X ⟨x0, x1, x2, x3, x4, x5, x6, x7⟩; go_simp; try with_reducible rfl
            simp only [Act.put, List.setIfInBounds_toArray, List.set_cons_zero, List.set_cons_succ, Array.toArray_toList]
            refine tkX 38 ⟨some 211, .move (.tmp 210), 4, "outright.go:126", #[⟨37, .data⟩, ⟨32, .chain⟩, ⟨32, .guard⟩], some (32, false)⟩ (v := ?_) hS0 ?_ ?_
            rotate_left
            · intro X ⟨x0, x1, x2, x3, x4, x5, x6, x7⟩; go_simp; try with_reducible rfl
            simp only [Act.put, List.setIfInBounds_toArray, List.set_cons_zero, List.set_cons_succ, Array.toArray_toList]
            refine tkX 39 ⟨some 212, .move (.tmp 24), 3, "outright.go:126", #[⟨38, .guard⟩], some (38, true)⟩ (v := ?_) hS0 ?_ ?_
            rotate_left
            · intro X ⟨x0, x1, x2, x3, x4, x5, x6, x7⟩; go_simp; try with_reducible rfl
            simp only [Act.put, List.setIfInBounds_toArray, List.set_cons_zero, List.set_cons_succ, Array.toArray_toList]
            refine tkX 40 ⟨some 213, .move (.tmp 11), 27, "outright.go:126", #[⟨38, .guard⟩], some (38, true)⟩ (v := ?_) hS0 ?_ ?_
            rotate_left
            · intro X ⟨x0, x1, x2, x3, x4, x5, x6, x7⟩; go_simp; try with_reducible rfl
            simp only [Act.put, List.setIfInBounds_toArray, List.set_cons_zero, List.set_cons_succ, Array.toArray_toList]
            refine tkX 41 ⟨some 214, .move (.tmp 22), 3, "outright.go:126", #[⟨38, .guard⟩], some (38, true)⟩ (v := ?_) hS0 ?_ ?_
            rotate_left
            · intro X ⟨x0, x1, x2, x3, x4, x5, x6, x7⟩; go_simp; try with_reducible rfl
            simp only [Act.put, List.setIfInBounds_toArray, List.set_cons_zero, List.set_cons_succ, Array.toArray_toList]
            refine tkX 42 ⟨some 215, .indexAddr 27 (.tmp 213) (.tmp 214), 0, "outright.go:126", #[⟨40, .data⟩, ⟨41, .data⟩, ⟨38, .guard⟩], some (38, true)⟩ (v := ?_) hS0 ?_ ?_
            rotate_left
            · intro X ⟨x0, x1, x2, x3, x4, x5, x6, x7⟩; go_simp; try with_reducible rfl
            simp only [Act.put, List.setIfInBounds_toArray, List.set_cons_zero, List.set_cons_succ, Array.toArray_toList]
            refine tkX 43 ⟨some 216, .load 3 (.tmp 215), 3, "outright.go:126", #[⟨42, .data⟩, ⟨38, .guard⟩], some (38, true)⟩ (v := ?_) hS0 ?_ ?_
            rotate_left
            · intro X ⟨x0, x1, x2, x3, x4, x5, x6, x7⟩; go_simp; try with_reducible rfl
            simp only [Act.put, List.setIfInBounds_toArray, List.set_cons_zero, List.set_cons_succ, Array.toArray_toList]
            refine tkX 44 ⟨some 217, .binOp .add 3 (.tmp 212) (.tmp 216) 3, 3, "outright.go:126", #[⟨39, .data⟩, ⟨43, .data⟩, ⟨38, .guard⟩], some (38, true)⟩ (v := ?_) hS0 ?_ ?_
            rotate_left
            · intro X ⟨x0, x1, x2, x3, x4, x5, x6, x7⟩; go_simp; try with_reducible rfl
            simp only [Act.put, List.setIfInBounds_toArray, List.set_cons_zero, List.set_cons_succ, Array.toArray_toList]
            refine tkX 45 ⟨some 218, .fieldAddr 26 (.tmp 4) 0, 0, "outright.go:126", #[⟨38, .guard⟩], some (38, true)⟩ (v := ?_) hS0 ?_ ?_
            rotate_left
            · intro X ⟨x0, x1, x2, x3, x4, x5, x6, x7⟩; go_simp; try with_reducible rfl
            simp only [Act.put, List.setIfInBounds_toArray, List.set_cons_zero, List.set_cons_succ, Array.toArray_toList]
            refine tkX 46 ⟨some 219, .load 3 (.tmp 218), 3, "outright.go:126", #[⟨45, .data⟩, ⟨38, .guard⟩], some (38, true)⟩ (v := ?_) hS0 ?_ ?_
            rotate_left
            · intro X ⟨x0, x1, x2, x3, x4, x5, x6, x7⟩; go_simp; try with_reducible rfl
            simp only [Act.put, List.setIfInBounds_toArray, List.set_cons_zero, List.set_cons_succ, Array.toArray_toList]
            refine tkX 47 ⟨some 220, .binOp .neq 3 (.tmp 217) (.tmp 219) 3, 4, "outright.go:126", #[⟨44, .data⟩, ⟨46, .data⟩, ⟨38, .guard⟩], some (38, true)⟩ (v := ?_) hS0 ?_ ?_
            rotate_left
            · intro X ⟨x0, x1, x2, x3, x4, x5, x6, x7⟩; go_simp; try with_reducible rfl
            simp only [Act.put, List.setIfInBounds_toArray, List.set_cons_zero, List.set_cons_succ, Array.toArray_toList]
            refine tkX 48 ⟨some 221, .pick (.tmp 211) (.tmp 220) (.const (.bool false)), 4, "outright.go:126", #[⟨38, .data⟩, ⟨47, .data⟩, ⟨32, .guard⟩], some (32, false)⟩ (v := ?_) hS0 ?_ ?_
            rotate_left
            · intro X ⟨x0, x1, x2, x3, x4, x5, x6, x7⟩; go_simp; try with_reducible rfl
            simp only [Act.put, List.setIfInBounds_toArray, List.set_cons_zero, List.set_cons_succ, Array.toArray_toList]
            refine tkX 49 ⟨some 222, .pick (.tmp 205) (.const (.bool true)) (.tmp 221), 4, "outright.go:126", #[⟨32, .data⟩, ⟨48, .data⟩], none⟩ (v := ?_) hS0 ?_ ?_
            rotate_left
            · intro X ⟨x0, x1, x2, x3, x4, x5, x6, x7⟩; go_simp; try with_reducible rfl
            simp only [Act.put, List.setIfInBounds_toArray, List.set_cons_zero, List.set_cons_succ, Array.toArray_toList]
            refine tkX 50 ⟨some 223, .move (.tmp 222), 4, "outright.go:126", #[⟨49, .data⟩, ⟨38, .chain⟩], none⟩ (v := ?_) hS0 ?_ ?_
            rotate_left
            · intro X ⟨x0, x1, x2, x3, x4, x5, x6, x7⟩; go_simp; try with_reducible rfl
            simp only [Act.put, List.setIfInBounds_toArray, List.set_cons_zero, List.set_cons_succ, Array.toArray_toList]
            refine tkX 51 ⟨some 224, .move (.tmp 11), 27, "outright.go:126", #[⟨50, .guard⟩], some (50, false)⟩ (v := ?_) hS0 ?_ ?_
            rotate_left
            · intro X ⟨x0, x1, x2, x3, x4, x5, x6, x7⟩; go_simp; try with_reducible rfl
            simp only [Act.put, List.setIfInBounds_toArray, List.set_cons_zero, List.set_cons_succ, Array.toArray_toList]
            refine tkX 52 ⟨some 225, .move (.tmp 22), 3, "outright.go:126", #[⟨50, .guard⟩], some (50, false)⟩ (v := ?_) hS0 ?_ ?_
            rotate_left
            · intro X ⟨x0, x1, x2, x3, x4, x5, x6, x7⟩; go_simp; try with_reducible rfl
            simp only [Act.put, List.setIfInBounds_toArray, List.set_cons_zero, List.set_cons_succ, Array.toArray_toList]
            refine tkX 53 ⟨some 226, .indexAddr 27 (.tmp 224) (.tmp 225), 0, "outright.go:126", #[⟨51, .data⟩, ⟨52, .data⟩, ⟨50, .guard⟩], some (50, false)⟩ (v := ?_) hS0 ?_ ?_
            rotate_left
            · intro X ⟨x0, x1, x2, x3, x4, x5, x6, x7⟩; go_simp; try with_reducible rfl
            simp only [Act.put, List.setIfInBounds_toArray, List.set_cons_zero, List.set_cons_succ, Array.toArray_toList]
            refine tkX 54 ⟨some 227, .load 3 (.tmp 226), 3, "outright.go:126", #[⟨53, .data⟩, ⟨50, .guard⟩], some (50, false)⟩ (v := ?_) hS0 ?_ ?_
            rotate_left
            · intro X ⟨x0, x1, x2, x3, x4, x5, x6, x7⟩; go_simp; try with_reducible rfl
            simp only [Act.put, List.setIfInBounds_toArray, List.set_cons_zero, List.set_cons_succ, Array.toArray_toList]
            refine tkX 55 ⟨some 228, .move (.tmp 15), 75, "outright.go:126", #[⟨50, .guard⟩], some (50, false)⟩ (v := ?_) hS0 ?_ ?_
            rotate_left
            · intro X ⟨x0, x1, x2, x3, x4, x5, x6, x7⟩; go_simp; try with_reducible rfl
            simp only [Act.put, List.setIfInBounds_toArray, List.set_cons_zero, List.set_cons_succ, Array.toArray_toList]
            refine tkX 56 ⟨some 229, .move (.tmp 22), 3, "outright.go:126", #[⟨50, .guard⟩], some (50, false)⟩ (v := ?_) hS0 ?_ ?_
            rotate_left
            · intro X ⟨x0, x1, x2, x3, x4, x5, x6, x7⟩; go_simp; try with_reducible rfl
            simp only [Act.put, List.setIfInBounds_toArray, List.set_cons_zero, List.set_cons_succ, Array.toArray_toList]
            refine tkX 57 ⟨some 230, .indexAddr 75 (.tmp 228) (.tmp 229), 0, "outright.go:126", #[⟨55, .data⟩, ⟨56, .data⟩, ⟨50, .guard⟩], some (50, false)⟩ (v := ?_) hS0 ?_ ?_
            rotate_left
            · intro X ⟨x0, x1, x2, x3, x4, x5, x6, x7⟩; go_simp; try with_reducible rfl
            simp only [Act.put, List.setIfInBounds_toArray, List.set_cons_zero, List.set_cons_succ, Array.toArray_toList]
            refine tkX 58 ⟨some 231, .fieldAddr 36 (.tmp 230) 0, 0, "outright.go:126", #[⟨57, .data⟩, ⟨50, .guard⟩], some (50, false)⟩ (v := ?_) hS0 ?_ ?_
            rotate_left
            · intro X ⟨x0, x1, x2, x3, x4, x5, x6, x7⟩; go_simp; try with_reducible rfl
            simp only [Act.put, List.setIfInBounds_toArray, List.set_cons_zero, List.set_cons_succ, Array.toArray_toList]
            refine tkX 59 ⟨some 232, .load 3 (.tmp 231), 3, "outright.go:126", #[⟨58, .data⟩, ⟨50, .guard⟩], some (50, false)⟩ (v := ?_) hS0 ?_ ?_
            rotate_left
            · intro X ⟨x0, x1, x2, x3, x4, x5, x6, x7⟩; go_simp; try with_reducible rfl
            simp only [Act.put, List.setIfInBounds_toArray, List.set_cons_zero, List.set_cons_succ, Array.toArray_toList]
            refine tkX 60 ⟨some 233, .binOp .lss 3 (.tmp 227) (.tmp 232) 3, 4, "outright.go:126", #[⟨54, .data⟩, ⟨59, .data⟩, ⟨50, .guard⟩], some (50, false)⟩ (v := ?_) hS0 ?_ ?_
            rotate_left
            · intro X ⟨x0, x1, x2, x3, x4, x5, x6, x7⟩; go_simp; try with_reducible rfl
            simp only [Act.put, List.setIfInBounds_toArray, List.set_cons_zero, List.set_cons_succ, Array.toArray_toList]
            refine tkX 61 ⟨some 234, .pick (.tmp 223) (.const (.bool true)) (.tmp 233), 4, "outright.go:126", #[⟨50, .data⟩, ⟨60, .data⟩], none⟩ (v := ?_) hS0 ?_ ?_
            rotate_left
            · intro X ⟨x0, x1, x2, x3, x4, x5, x6, x7⟩; go_simp; try with_reducible rfl
            simp only [Act.put, List.setIfInBounds_toArray, List.set_cons_zero, List.set_cons_succ, Array.toArray_toList]
            refine tkX 62 ⟨some 235, .move (.tmp 234), 4, "outright.go:126", #[⟨61, .data⟩, ⟨50, .chain⟩], none⟩ (v := ?_) hS0 ?_ ?_
            rotate_left
            · intro X ⟨x0, x1, x2, x3, x4, x5, x6, x7⟩; go_simp; try with_reducible rfl
            simp only [Act.put, List.setIfInBounds_toArray, List.set_cons_zero, List.set_cons_succ, Array.toArray_toList]
            refine tkX 63 ⟨some 236, .move (.tmp 11), 27, "outright.go:126", #[⟨62, .guard⟩], some (62, false)⟩ (v := ?_) hS0 ?_ ?_
            rotate_left
            · intro X ⟨x0, x1, x2, x3, x4, x5, x6, x7⟩; go_simp; try with_reducible rfl
            simp only [Act.put, List.setIfInBounds_toArray, List.set_cons_zero, List.set_cons_succ, Array.toArray_toList]
            refine tkX 64 ⟨some 237, .move (.tmp 22), 3, "outright.go:126", #[⟨62, .guard⟩], some (62, false)⟩ (v := ?_) hS0 ?_ ?_
            rotate_left
            · intro X ⟨x0, x1, x2, x3, x4, x5, x6, x7⟩; go_simp; try with_reducible rfl
            simp only [Act.put, List.setIfInBounds_toArray, List.set_cons_zero, List.set_cons_succ, Array.toArray_toList]
            refine tkX 65 ⟨some 238, .indexAddr 27 (.tmp 236) (.tmp 237), 0, "outright.go:126", #[⟨63, .data⟩, ⟨64, .data⟩, ⟨62, .guard⟩], some (62, false)⟩ (v := ?_) hS0 ?_ ?_
            rotate_left
            · intro X ⟨x0, x1, x2, x3, x4, x5, x6, x7⟩; go_simp; try with_reducible rfl
            simp only [Act.put, List.setIfInBounds_toArray, List.set_cons_zero, List.set_cons_succ, Array.toArray_toList]
            refine tkX 66 ⟨some 239, .load 3 (.tmp 238), 3, "outright.go:126", #[⟨65, .data⟩, ⟨62, .guard⟩], some (62, false)⟩ (v := ?_) hS0 ?_ ?_
            rotate_left
            · intro X ⟨x0, x1, x2, x3, x4, x5, x6, x7⟩; go_simp; try with_reducible rfl
            simp only [Act.put, List.setIfInBounds_toArray, List.set_cons_zero, List.set_cons_succ, Array.toArray_toList]
            refine tkX 67 ⟨some 240, .move (.tmp 15), 75, "outright.go:126", #[⟨62, .guard⟩], some (62, false)⟩ (v := ?_) hS0 ?_ ?_
            rotate_left
            · intro X ⟨x0, x1, x2, x3, x4, x5, x6, x7⟩; go_simp; try with_reducible rfl
            simp only [Act.put, List.setIfInBounds_toArray, List.set_cons_zero, List.set_cons_succ, Array.toArray_toList]
            refine tkX 68 ⟨some 241, .move (.tmp 22), 3, "outright.go:126", #[⟨62, .guard⟩], some (62, false)⟩ (v := ?_) hS0 ?_ ?_
            rotate_left
            · intro X ⟨x0, x1, x2, x3, x4, x5, x6, x7⟩; go_simp; try with_reducible rfl
            simp only [Act.put, List.setIfInBounds_toArray, List.set_cons_zero, List.set_cons_succ, Array.toArray_toList]
            refine tkX 69 ⟨some 242, .indexAddr 75 (.tmp 240) (.tmp 241), 0, "outright.go:126", #[⟨67, .data⟩, ⟨68, .data⟩, ⟨62, .guard⟩], some (62, false)⟩ (v := ?_) hS0 ?_ ?_
            rotate_left
            · intro X ⟨x0, x1, x2, x3, x4, x5, x6, x7⟩; go_simp; try with_reducible rfl
            simp only [Act.put, List.setIfInBounds_toArray, List.set_cons_zero, List.set_cons_succ, Array.toArray_toList]
            refine tkX 70 ⟨some 243, .fieldAddr 36 (.tmp 242) 1, 0, "outright.go:126", #[⟨69, .data⟩, ⟨62, .guard⟩], some (62, false)⟩ (v := ?_) hS0 ?_ ?_
            rotate_left
            · intro X ⟨x0, x1, x2, x3, x4, x5, x6, x7⟩; go_simp; try with_reducible rfl
            simp only [Act.put, List.setIfInBounds_toArray, List.set_cons_zero, List.set_cons_succ, Array.toArray_toList]
            refine tkX 71 ⟨some 244, .load 3 (.tmp 243), 3, "outright.go:126", #[⟨70, .data⟩, ⟨62, .guard⟩], some (62, false)⟩ (v := ?_) hS0 ?_ ?_
            rotate_left
            · intro X ⟨x0, x1, x2, x3, x4, x5, x6, x7⟩; go_simp; try with_reducible rfl
            simp only [Act.put, List.setIfInBounds_toArray, List.set_cons_zero, List.set_cons_succ, Array.toArray_toList]
            refine tkX 72 ⟨some 245, .binOp .gtr 3 (.tmp 239) (.tmp 244) 3, 4, "outright.go:126", #[⟨66, .data⟩, ⟨71, .data⟩, ⟨62, .guard⟩], some (62, false)⟩ (v := ?_) hS0 ?_ ?_
            rotate_left
            · intro X ⟨x0, x1, x2, x3, x4, x5, x6, x7⟩; go_simp; try with_reducible rfl
            simp only [Act.put, List.setIfInBounds_toArray, List.set_cons_zero, List.set_cons_succ, Array.toArray_toList]
            refine tkX 73 ⟨some 246, .pick (.tmp 235) (.const (.bool true)) (.tmp 245), 4, "outright.go:126", #[⟨62, .data⟩, ⟨72, .data⟩], none⟩ (v := ?_) hS0 ?_ ?_
            rotate_left
            · intro X ⟨x0, x1, x2, x3, x4, x5, x6, x7⟩; go_simp; try with_reducible rfl
            simp only [Act.put, List.setIfInBounds_toArray, List.set_cons_zero, List.set_cons_succ, Array.toArray_toList]
            refine wpAnyH_done (by as_aux_lemma => kernel_rfl) ?_ _
            clear hS0
            go_wp2_with fail
            go_meet
            case rel => exact ⟨rfl, by first | exact ((Below.refl _ wr).drewN _).drew | exact (((Below.refl _ wr).drewN _).drewN _).drew | exact ((((Below.refl _ wr).drewN _).drewN _).drewN _) | exact ((Below.refl _ wr).drewN _).drewN _⟩
          · have z6 : decide (BK > 0) = false := by simp; omega
            have z6' : decide (0 < BK) = false := by simp; omega
            clear hbk
            refine wp_region_held_drew (S := fun X => X.cell? ⟨q2, r2 + j, none⟩ = some (.int .i64 BK) ∧ X.cell? ⟨q1, r1 + j, none⟩ = some (.int .i64 LF) ∧ X.cell? ⟨Bp, 0, none⟩ = some (.slice (some ⟨bc, oc, none⟩) c.length cc) ∧ X.cell? ⟨bc, oc + j, none⟩ = some (.int .i64 CC) ∧ X.cell? ⟨Bs, 1, none⟩ = some (.int .i64 s.can) ∧ X.cell? ⟨Bs, 0, none⟩ = some (.int .i64 s.cap) ∧ X.cell? ⟨q4, r4 + j * 2, none⟩ = some (.int .i64 lo) ∧ X.cell? ⟨q4, r4 + j * 2 + 1, none⟩ = some (.int .i64 hi)) (by kernel_rfl) (⟨f2, f1, p0, d0, s1, s0, g0, g1⟩) (fun hS0 => ?_)
            refine tkX 0 ⟨some 173, .move (.tmp 12), 27, "outright.go:126", #[], none⟩ (v := ?_) hS0 ?_ ?_
            rotate_left
            · intro X ⟨x0, x1, x2, x3, x4, x5, x6, x7⟩; go_simp; try with_reducible rfl
            simp only [Act.put, List.setIfInBounds_toArray, List.set_cons_zero, List.set_cons_succ, Array.toArray_toList]
            refine tkX 1 ⟨some 174, .move (.tmp 22), 3, "outright.go:126", #[], none⟩ (v := ?_) hS0 ?_ ?_
            rotate_left
            · intro X ⟨x0, x1, x2, x3, x4, x5, x6, x7⟩; go_simp; try with_reducible rfl
            simp only [Act.put, List.setIfInBounds_toArray, List.set_cons_zero, List.set_cons_succ, Array.toArray_toList]
            refine tkX 2 ⟨some 175, .indexAddr 27 (.tmp 173) (.tmp 174), 0, "outright.go:126", #[⟨0, .data⟩, ⟨1, .data⟩], none⟩ (v := ?_) hS0 ?_ ?_
            rotate_left
            · intro X ⟨x0, x1, x2, x3, x4, x5, x6, x7⟩; go_simp; try with_reducible rfl
            simp only [Act.put, List.setIfInBounds_toArray, List.set_cons_zero, List.set_cons_succ, Array.toArray_toList]
            refine tkX 3 ⟨some 176, .load 3 (.tmp 175), 3, "outright.go:126", #[⟨2, .data⟩], none⟩ (v := ?_) hS0 ?_ ?_
            rotate_left
            · intro X ⟨x0, x1, x2, x3, x4, x5, x6, x7⟩; go_simp; try with_reducible rfl
            simp only [Act.put, List.setIfInBounds_toArray, List.set_cons_zero, List.set_cons_succ, Array.toArray_toList]
            refine tkX 4 ⟨some 177, .binOp .lss 3 (.tmp 176) (.const (.int .i64 0)) 3, 4, "outright.go:126", #[⟨3, .data⟩], none⟩ (v := ?_) hS0 ?_ ?_
            rotate_left
            · intro X ⟨x0, x1, x2, x3, x4, x5, x6, x7⟩; go_simp; try with_reducible rfl
            simp only [Act.put, List.setIfInBounds_toArray, List.set_cons_zero, List.set_cons_succ, Array.toArray_toList]
            refine tkX 5 ⟨some 178, .move (.tmp 177), 4, "outright.go:126", #[⟨4, .data⟩], none⟩ (v := ?_) hS0 ?_ ?_
            rotate_left
            · intro X ⟨x0, x1, x2, x3, x4, x5, x6, x7⟩; go_simp; try with_reducible rfl
            simp only [Act.put, List.setIfInBounds_toArray, List.set_cons_zero, List.set_cons_succ, Array.toArray_toList]
            refine tkX 6 ⟨some 179, .move (.tmp 11), 27, "outright.go:126", #[⟨5, .guard⟩], some (5, false)⟩ (v := ?_) hS0 ?_ ?_
            rotate_left
            · intro X ⟨x0, x1, x2, x3, x4, x5, x6, x7⟩; go_simp; try with_reducible rfl
            simp only [Act.put, List.setIfInBounds_toArray, List.set_cons_zero, List.set_cons_succ, Array.toArray_toList]
            refine tkX 7 ⟨some 180, .move (.tmp 22), 3, "outright.go:126", #[⟨5, .guard⟩], some (5, false)⟩ (v := ?_) hS0 ?_ ?_
            rotate_left
            · intro X ⟨x0, x1, x2, x3, x4, x5, x6, x7⟩; go_simp; try with_reducible rfl
            simp only [Act.put, List.setIfInBounds_toArray, List.set_cons_zero, List.set_cons_succ, Array.toArray_toList]
            refine tkX 8 ⟨some 181, .indexAddr 27 (.tmp 179) (.tmp 180), 0, "outright.go:126", #[⟨6, .data⟩, ⟨7, .data⟩, ⟨5, .guard⟩], some (5, false)⟩ (v := ?_) hS0 ?_ ?_
            rotate_left
            · intro X ⟨x0, x1, x2, x3, x4, x5, x6, x7⟩; go_simp; try with_reducible rfl
            simp only [Act.put, List.setIfInBounds_toArray, List.set_cons_zero, List.set_cons_succ, Array.toArray_toList]
            refine tkX 9 ⟨some 182, .load 3 (.tmp 181), 3, "outright.go:126", #[⟨8, .data⟩, ⟨5, .guard⟩], some (5, false)⟩ (v := ?_) hS0 ?_ ?_
            rotate_left
            · intro X ⟨x0, x1, x2, x3, x4, x5, x6, x7⟩; go_simp; try with_reducible rfl
            simp only [Act.put, List.setIfInBounds_toArray, List.set_cons_zero, List.set_cons_succ, Array.toArray_toList]
            refine tkX 10 ⟨some 183, .binOp .lss 3 (.tmp 182) (.const (.int .i64 0)) 3, 4, "outright.go:126", #[⟨9, .data⟩, ⟨5, .guard⟩], some (5, false)⟩ (v := ?_) hS0 ?_ ?_
            rotate_left
            · intro X ⟨x0, x1, x2, x3, x4, x5, x6, x7⟩; go_simp; try with_reducible rfl
            simp only [Act.put, List.setIfInBounds_toArray, List.set_cons_zero, List.set_cons_succ, Array.toArray_toList]
            refine tkX 11 ⟨some 184, .pick (.tmp 178) (.const (.bool true)) (.tmp 183), 4, "outright.go:126", #[⟨5, .data⟩, ⟨10, .data⟩], none⟩ (v := ?_) hS0 ?_ ?_
            rotate_left
            · intro X ⟨x0, x1, x2, x3, x4, x5, x6, x7⟩; go_simp; try with_reducible rfl
            simp only [Act.put, List.setIfInBounds_toArray, List.set_cons_zero, List.set_cons_succ, Array.toArray_toList]
            refine tkX 12 ⟨some 185, .move (.tmp 184), 4, "outright.go:126", #[⟨11, .data⟩, ⟨5, .chain⟩], none⟩ (v := ?_) hS0 ?_ ?_
            rotate_left
            · intro X ⟨x0, x1, x2, x3, x4, x5, x6, x7⟩; go_simp; try with_reducible rfl
            simp only [Act.put, List.setIfInBounds_toArray, List.set_cons_zero, List.set_cons_succ, Array.toArray_toList]
            refine tkX 13 ⟨some 186, .move (.tmp 21), 3, "outright.go:126", #[⟨12, .guard⟩], some (12, false)⟩ (v := ?_) hS0 ?_ ?_
            rotate_left
            · intro X ⟨x0, x1, x2, x3, x4, x5, x6, x7⟩; go_simp; try with_reducible rfl
            simp only [Act.put, List.setIfInBounds_toArray, List.set_cons_zero, List.set_cons_succ, Array.toArray_toList]
            refine tkX 14 ⟨some 187, .fieldAddr 29 (.tmp 5) 0, 0, "outright.go:126", #[⟨12, .guard⟩], some (12, false)⟩ (v := ?_) hS0 ?_ ?_
            rotate_left
            · intro X ⟨x0, x1, x2, x3, x4, x5, x6, x7⟩; go_simp; try with_reducible rfl
            simp only [Act.put, List.setIfInBounds_toArray, List.set_cons_zero, List.set_cons_succ, Array.toArray_toList]
            refine tkX 15 ⟨some 188, .load 27 (.tmp 187), 27, "outright.go:126", #[⟨14, .data⟩, ⟨12, .guard⟩], some (12, false)⟩ (v := ?_) hS0 ?_ ?_
            rotate_left
            · intro X ⟨x0, x1, x2, x3, x4, x5, x6, x7⟩; go_simp; try with_reducible rfl
            simp only [Act.put, List.setIfInBounds_toArray, List.set_cons_zero, List.set_cons_succ, Array.toArray_toList]
            refine tkX 16 ⟨some 189, .move (.tmp 22), 3, "outright.go:126", #[⟨12, .guard⟩], some (12, false)⟩ (v := ?_) hS0 ?_ ?_
            rotate_left
            · intro X ⟨x0, x1, x2, x3, x4, x5, x6, x7⟩; go_simp; try with_reducible rfl
            simp only [Act.put, List.setIfInBounds_toArray, List.set_cons_zero, List.set_cons_succ, Array.toArray_toList]
            refine tkX 17 ⟨some 190, .indexAddr 27 (.tmp 188) (.tmp 189), 0, "outright.go:126", #[⟨15, .data⟩, ⟨16, .data⟩, ⟨12, .guard⟩], some (12, false)⟩ (v := ?_) hS0 ?_ ?_
            rotate_left
            · intro X ⟨x0, x1, x2, x3, x4, x5, x6, x7⟩; go_simp; try with_reducible rfl
            simp only [Act.put, List.setIfInBounds_toArray, List.set_cons_zero, List.set_cons_succ, Array.toArray_toList]
            refine tkX 18 ⟨some 191, .load 3 (.tmp 190), 3, "outright.go:126", #[⟨17, .data⟩, ⟨12, .guard⟩], some (12, false)⟩ (v := ?_) hS0 ?_ ?_
            rotate_left
            · intro X ⟨x0, x1, x2, x3, x4, x5, x6, x7⟩; go_simp; try with_reducible rfl
            simp only [Act.put, List.setIfInBounds_toArray, List.set_cons_zero, List.set_cons_succ, Array.toArray_toList]
            refine tkX 19 ⟨some 192, .fieldAddr 26 (.tmp 4) 1, 0, "outright.go:126", #[⟨12, .guard⟩], some (12, false)⟩ (v := ?_) hS0 ?_ ?_
            rotate_left
            · intro X ⟨x0, x1, x2, x3, x4, x5, x6, x7⟩; go_simp; try with_reducible rfl
            simp only [Act.put, List.setIfInBounds_toArray, List.set_cons_zero, List.set_cons_succ, Array.toArray_toList]
            refine tkX 20 ⟨some 193, .load 3 (.tmp 192), 3, "outright.go:126", #[⟨19, .data⟩, ⟨12, .guard⟩], some (12, false)⟩ (v := ?_) hS0 ?_ ?_
            rotate_left
            · intro X ⟨x0, x1, x2, x3, x4, x5, x6, x7⟩; go_simp; try with_reducible rfl
            simp only [Act.put, List.setIfInBounds_toArray, List.set_cons_zero, List.set_cons_succ, Array.toArray_toList]
            refine tkX 21 ⟨some 194, .binOp .mul 3 (.tmp 191) (.tmp 193) 3, 3, "outright.go:126", #[⟨18, .data⟩, ⟨20, .data⟩, ⟨12, .guard⟩], some (12, false)⟩ (v := ?_) hS0 ?_ ?_
            rotate_left
            · intro X ⟨x0, x1, x2, x3, x4, x5, x6, x7⟩; go_simp; try with_reducible rfl
            simp only [Act.put, List.setIfInBounds_toArray, List.set_cons_zero, List.set_cons_succ, Array.toArray_toList]
            refine tkX 22 ⟨some 195, .binOp .add 3 (.tmp 186) (.tmp 194) 3, 3, "outright.go:126", #[⟨13, .data⟩, ⟨21, .data⟩, ⟨12, .guard⟩], some (12, false)⟩ (v := ?_) hS0 ?_ ?_
            rotate_left
            · intro X ⟨x0, x1, x2, x3, x4, x5, x6, x7⟩; go_simp; try with_reducible rfl
            simp only [Act.put, List.setIfInBounds_toArray, List.set_cons_zero, List.set_cons_succ, Array.toArray_toList]
            refine tkX 23 ⟨some 196, .move (.tmp 12), 27, "outright.go:126", #[⟨12, .guard⟩], some (12, false)⟩ (v := ?_) hS0 ?_ ?_
            rotate_left
            · intro X ⟨x0, x1, x2, x3, x4, x5, x6, x7⟩; go_simp; try with_reducible rfl
            simp only [Act.put, List.setIfInBounds_toArray, List.set_cons_zero, List.set_cons_succ, Array.toArray_toList]
            refine tkX 24 ⟨some 197, .move (.tmp 22), 3, "outright.go:126", #[⟨12, .guard⟩], some (12, false)⟩ (v := ?_) hS0 ?_ ?_
            rotate_left
            · intro X ⟨x0, x1, x2, x3, x4, x5, x6, x7⟩; go_simp; try with_reducible rfl
            simp only [Act.put, List.setIfInBounds_toArray, List.set_cons_zero, List.set_cons_succ, Array.toArray_toList]
            refine tkX 25 ⟨some 198, .indexAddr 27 (.tmp 196) (.tmp 197), 0, "outright.go:126", #[⟨23, .data⟩, ⟨24, .data⟩, ⟨12, .guard⟩], some (12, false)⟩ (v := ?_) hS0 ?_ ?_
            rotate_left
            · intro X ⟨x0, x1, x2, x3, x4, x5, x6, x7⟩; go_simp; try with_reducible rfl
            simp only [Act.put, List.setIfInBounds_toArray, List.set_cons_zero, List.set_cons_succ, Array.toArray_toList]
            refine tkX 26 ⟨some 199, .load 3 (.tmp 198), 3, "outright.go:126", #[⟨25, .data⟩, ⟨12, .guard⟩], some (12, false)⟩ (v := ?_) hS0 ?_ ?_
            rotate_left
            · intro X ⟨x0, x1, x2, x3, x4, x5, x6, x7⟩; go_simp; try with_reducible rfl
            simp only [Act.put, List.setIfInBounds_toArray, List.set_cons_zero, List.set_cons_succ, Array.toArray_toList]
            refine tkX 27 ⟨some 200, .binOp .sub 3 (.tmp 195) (.tmp 199) 3, 3, "outright.go:126", #[⟨22, .data⟩, ⟨26, .data⟩, ⟨12, .guard⟩], some (12, false)⟩ (v := ?_) hS0 ?_ ?_
            rotate_left
            · intro X ⟨x0, x1, x2, x3, x4, x5, x6, x7⟩; go_simp; try with_reducible rfl
            simp only [Act.put, List.setIfInBounds_toArray, List.set_cons_zero, List.set_cons_succ, Array.toArray_toList]
            refine tkX 28 ⟨some 201, .fieldAddr 26 (.tmp 4) 0, 0, "outright.go:126", #[⟨12, .guard⟩], some (12, false)⟩ (v := ?_) hS0 ?_ ?_
            rotate_left
            · intro X ⟨x0, x1, x2, x3, x4, x5, x6, x7⟩; go_simp; try with_reducible rfl
            simp only [Act.put, List.setIfInBounds_toArray, List.set_cons_zero, List.set_cons_succ, Array.toArray_toList]
            refine tkX 29 ⟨some 202, .load 3 (.tmp 201), 3, "outright.go:126", #[⟨28, .data⟩, ⟨12, .guard⟩], some (12, false)⟩ (v := ?_) hS0 ?_ ?_
            rotate_left
            · intro X ⟨x0, x1, x2, x3, x4, x5, x6, x7⟩; go_simp; try with_reducible rfl
            simp only [Act.put, List.setIfInBounds_toArray, List.set_cons_zero, List.set_cons_succ, Array.toArray_toList]
            refine tkX 30 ⟨some 203, .binOp .gtr 3 (.tmp 200) (.tmp 202) 3, 4, "outright.go:126", #[⟨27, .data⟩, ⟨29, .data⟩, ⟨12, .guard⟩], some (12, false)⟩ (v := ?_) hS0 ?_ ?_
            rotate_left
            · intro X ⟨x0, x1, x2, x3, x4, x5, x6, x7⟩; go_simp; try with_reducible rfl
            simp only [Act.put, List.setIfInBounds_toArray, List.set_cons_zero, List.set_cons_succ, Array.toArray_toList]
            refine tkX 31 ⟨some 204, .pick (.tmp 185) (.const (.bool true)) (.tmp 203), 4, "outright.go:126", #[⟨12, .data⟩, ⟨30, .data⟩], none⟩ (v := ?_) hS0 ?_ ?_
            rotate_left
            · intro X ⟨x0, x1, x2, x3, x4, x5, x6, x7⟩; go_simp; try with_reducible rfl
            simp only [Act.put, List.setIfInBounds_toArray, List.set_cons_zero, List.set_cons_succ, Array.toArray_toList]
            refine tkX 32 ⟨some 205, .move (.tmp 204), 4, "outright.go:126", #[⟨31, .data⟩, ⟨12, .chain⟩], none⟩ (v := ?_) hS0 ?_ ?_
            rotate_left
            · intro X ⟨x0, x1, x2, x3, x4, x5, x6, x7⟩; go_simp; try with_reducible rfl
            simp only [Act.put, List.setIfInBounds_toArray, List.set_cons_zero, List.set_cons_succ, Array.toArray_toList]
            refine tkX 33 ⟨some 206, .move (.tmp 12), 27, "outright.go:126", #[⟨32, .guard⟩], some (32, false)⟩ (v := ?_) hS0 ?_ ?_
            rotate_left
            · intro X ⟨x0, x1, x2, x3, x4, x5, x6, x7⟩; go_simp; try with_reducible rfl
            simp only [Act.put, List.setIfInBounds_toArray, List.set_cons_zero, List.set_cons_succ, Array.toArray_toList]
            refine tkX 34 ⟨some 207, .move (.tmp 22), 3, "outright.go:126", #[⟨32, .guard⟩], some (32, false)⟩ (v := ?_) hS0 ?_ ?_
            rotate_left
            · intro X ⟨x0, x1, x2, x3, x4, x5, x6, x7⟩; go_simp; try with_reducible rfl
            simp only [Act.put, List.setIfInBounds_toArray, List.set_cons_zero, List.set_cons_succ, Array.toArray_toList]
            refine tkX 35 ⟨some 208, .indexAddr 27 (.tmp 206) (.tmp 207), 0, "outright.go:126", #[⟨33, .data⟩, ⟨34, .data⟩, ⟨32, .guard⟩], some (32, false)⟩ (v := ?_) hS0 ?_ ?_
            rotate_left
            · intro X ⟨x0, x1, x2, x3, x4, x5, x6, x7⟩; go_simp; try with_reducible rfl
            simp only [Act.put, List.setIfInBounds_toArray, List.set_cons_zero, List.set_cons_succ, Array.toArray_toList]
            refine tkX 36 ⟨some 209, .load 3 (.tmp 208), 3, "outright.go:126", #[⟨35, .data⟩, ⟨32, .guard⟩], some (32, false)⟩ (v := ?_) hS0 ?_ ?_
            rotate_left
            · intro X ⟨x0, x1, x2, x3, x4, x5, x6, x7⟩; go_simp; try with_reducible rfl
            simp only [Act.put, List.setIfInBounds_toArray, List.set_cons_zero, List.set_cons_succ, Array.toArray_toList]
            refine tkX 37 ⟨some 210, .binOp .gtr 3 (.tmp 209) (.const (.int .i64 0)) 3, 4, "outright.go:126", #[⟨36, .data⟩, ⟨32, .guard⟩], some (32, false)⟩ (v := ?_) hS0 ?_ ?_
            rotate_left
            · intro X ⟨x0, x1, x2, x3, x4, x5, x6, x7⟩; go_simp; try with_reducible rfl
            simp only [Act.put, List.setIfInBounds_toArray, List.set_cons_zero, List.set_cons_succ, Array.toArray_toList]
            refine tkX 38 ⟨some 211, .move (.tmp 210), 4, "outright.go:126", #[⟨37, .data⟩, ⟨32, .chain⟩, ⟨32, .guard⟩], some (32, false)⟩ (v := ?_) hS0 ?_ ?_
            rotate_left
            · intro X ⟨x0, x1, x2, x3, x4, x5, x6, x7⟩; go_simp; try with_reducible rfl
            simp only [Act.put, List.setIfInBounds_toArray, List.set_cons_zero, List.set_cons_succ, Array.toArray_toList]
            refine wpAnyH_take (i := 39) (oi := ⟨some 212, .move (.tmp 24), 3, "outright.go:126", #[⟨38, .guard⟩], some (38, true)⟩) (v := undef) rfl (by as_aux_lemma => kernel_rfl) (by as_aux_lemma => kernel_rfl) (by as_aux_lemma => kernel_rfl) (fun _ _ _ h => h) (Or.inr ⟨by rfl, rfl⟩) hS0 ?_
            simp only [Act.put, List.setIfInBounds_toArray, List.set_cons_zero, List.set_cons_succ, Array.toArray_toList]
            refine wpAnyH_take (i := 40) (oi := ⟨some 213, .move (.tmp 11), 27, "outright.go:126", #[⟨38, .guard⟩], some (38, true)⟩) (v := undef) rfl (by as_aux_lemma => kernel_rfl) (by as_aux_lemma => kernel_rfl) (by as_aux_lemma => kernel_rfl) (fun _ _ _ h => h) (Or.inr ⟨by rfl, rfl⟩) hS0 ?_
            simp only [Act.put, List.setIfInBounds_toArray, List.set_cons_zero, List.set_cons_succ, Array.toArray_toList]
            refine wpAnyH_take (i := 41) (oi := ⟨some 214, .move (.tmp 22), 3, "outright.go:126", #[⟨38, .guard⟩], some (38, true)⟩) (v := undef) rfl (by as_aux_lemma => kernel_rfl) (by as_aux_lemma => kernel_rfl) (by as_aux_lemma => kernel_rfl) (fun _ _ _ h => h) (Or.inr ⟨by rfl, rfl⟩) hS0 ?_
            simp only [Act.put, List.setIfInBounds_toArray, List.set_cons_zero, List.set_cons_succ, Array.toArray_toList]
            refine wpAnyH_take (i := 42) (oi := ⟨some 215, .indexAddr 27 (.tmp 213) (.tmp 214), 0, "outright.go:126", #[⟨40, .data⟩, ⟨41, .data⟩, ⟨38, .guard⟩], some (38, true)⟩) (v := undef) rfl (by as_aux_lemma => kernel_rfl) (by as_aux_lemma => kernel_rfl) (by as_aux_lemma => kernel_rfl) (fun _ _ _ h => h) (Or.inr ⟨by rfl, rfl⟩) hS0 ?_
            simp only [Act.put, List.setIfInBounds_toArray, List.set_cons_zero, List.set_cons_succ, Array.toArray_toList]
            refine wpAnyH_take (i := 43) (oi := ⟨some 216, .load 3 (.tmp 215), 3, "outright.go:126", #[⟨42, .data⟩, ⟨38, .guard⟩], some (38, true)⟩) (v := undef) rfl (by as_aux_lemma => kernel_rfl) (by as_aux_lemma => kernel_rfl) (by as_aux_lemma => kernel_rfl) (fun _ _ _ h => h) (Or.inr ⟨by rfl, rfl⟩) hS0 ?_
            simp only [Act.put, List.setIfInBounds_toArray, List.set_cons_zero, List.set_cons_succ, Array.toArray_toList]
            refine wpAnyH_take (i := 44) (oi := ⟨some 217, .binOp .add 3 (.tmp 212) (.tmp 216) 3, 3, "outright.go:126", #[⟨39, .data⟩, ⟨43, .data⟩, ⟨38, .guard⟩], some (38, true)⟩) (v := undef) rfl (by as_aux_lemma => kernel_rfl) (by as_aux_lemma => kernel_rfl) (by as_aux_lemma => kernel_rfl) (fun _ _ _ h => h) (Or.inr ⟨by rfl, rfl⟩) hS0 ?_
            simp only [Act.put, List.setIfInBounds_toArray, List.set_cons_zero, List.set_cons_succ, Array.toArray_toList]
            refine wpAnyH_take (i := 45) (oi := ⟨some 218, .fieldAddr 26 (.tmp 4) 0, 0, "outright.go:126", #[⟨38, .guard⟩], some (38, true)⟩) (v := undef) rfl (by as_aux_lemma => kernel_rfl) (by as_aux_lemma => kernel_rfl) (by as_aux_lemma => kernel_rfl) (fun _ _ _ h => h) (Or.inr ⟨by rfl, rfl⟩) hS0 ?_
            simp only [Act.put, List.setIfInBounds_toArray, List.set_cons_zero, List.set_cons_succ, Array.toArray_toList]
            refine wpAnyH_take (i := 46) (oi := ⟨some 219, .load 3 (.tmp 218), 3, "outright.go:126", #[⟨45, .data⟩, ⟨38, .guard⟩], some (38, true)⟩) (v := undef) rfl (by as_aux_lemma => kernel_rfl) (by as_aux_lemma => kernel_rfl) (by as_aux_lemma => kernel_rfl) (fun _ _ _ h => h) (Or.inr ⟨by rfl, rfl⟩) hS0 ?_
            simp only [Act.put, List.setIfInBounds_toArray, List.set_cons_zero, List.set_cons_succ, Array.toArray_toList]
            refine wpAnyH_take (i := 47) (oi := ⟨some 220, .binOp .neq 3 (.tmp 217) (.tmp 219) 3, 4, "outright.go:126", #[⟨44, .data⟩, ⟨46, .data⟩, ⟨38, .guard⟩], some (38, true)⟩) (v := undef) rfl (by as_aux_lemma => kernel_rfl) (by as_aux_lemma => kernel_rfl) (by as_aux_lemma => kernel_rfl) (fun _ _ _ h => h) (Or.inr ⟨by rfl, rfl⟩) hS0 ?_
            simp only [Act.put, List.setIfInBounds_toArray, List.set_cons_zero, List.set_cons_succ, Array.toArray_toList]
            refine tkX 48 ⟨some 221, .pick (.tmp 211) (.tmp 220) (.const (.bool false)), 4, "outright.go:126", #[⟨38, .data⟩, ⟨47, .data⟩, ⟨32, .guard⟩], some (32, false)⟩ (v := ?_) hS0 ?_ ?_
            rotate_left
            · intro X ⟨x0, x1, x2, x3, x4, x5, x6, x7⟩; go_simp; try with_reducible rfl
            simp only [Act.put, List.setIfInBounds_toArray, List.set_cons_zero, List.set_cons_succ, Array.toArray_toList]
            refine tkX 49 ⟨some 222, .pick (.tmp 205) (.const (.bool true)) (.tmp 221), 4, "outright.go:126", #[⟨32, .data⟩, ⟨48, .data⟩], none⟩ (v := ?_) hS0 ?_ ?_
            rotate_left
            · intro X ⟨x0, x1, x2, x3, x4, x5, x6, x7⟩; go_simp; try with_reducible rfl
            simp only [Act.put, List.setIfInBounds_toArray, List.set_cons_zero, List.set_cons_succ, Array.toArray_toList]
            refine tkX 50 ⟨some 223, .move (.tmp 222), 4, "outright.go:126", #[⟨49, .data⟩, ⟨38, .chain⟩], none⟩ (v := ?_) hS0 ?_ ?_
            rotate_left
            · intro X ⟨x0, x1, x2, x3, x4, x5, x6, x7⟩; go_simp; try with_reducible rfl
            simp only [Act.put, List.setIfInBounds_toArray, List.set_cons_zero, List.set_cons_succ, Array.toArray_toList]
            refine tkX 51 ⟨some 224, .move (.tmp 11), 27, "outright.go:126", #[⟨50, .guard⟩], some (50, false)⟩ (v := ?_) hS0 ?_ ?_
            rotate_left
            · intro X ⟨x0, x1, x2, x3, x4, x5, x6, x7⟩; go_simp; try with_reducible rfl
            simp only [Act.put, List.setIfInBounds_toArray, List.set_cons_zero, List.set_cons_succ, Array.toArray_toList]
            refine tkX 52 ⟨some 225, .move (.tmp 22), 3, "outright.go:126", #[⟨50, .guard⟩], some (50, false)⟩ (v := ?_) hS0 ?_ ?_
            rotate_left
            · intro X ⟨x0, x1, x2, x3, x4, x5, x6, x7⟩; go_simp; try with_reducible rfl
            simp only [Act.put, List.setIfInBounds_toArray, List.set_cons_zero, List.set_cons_succ, Array.toArray_toList]
            refine tkX 53 ⟨some 226, .indexAddr 27 (.tmp 224) (.tmp 225), 0, "outright.go:126", #[⟨51, .data⟩, ⟨52, .data⟩, ⟨50, .guard⟩], some (50, false)⟩ (v := ?_) hS0 ?_ ?_
            rotate_left
            · intro X ⟨x0, x1, x2, x3, x4, x5, x6, x7⟩; go_simp; try with_reducible rfl
            simp only [Act.put, List.setIfInBounds_toArray, List.set_cons_zero, List.set_cons_succ, Array.toArray_toList]
            refine tkX 54 ⟨some 227, .load 3 (.tmp 226), 3, "outright.go:126", #[⟨53, .data⟩, ⟨50, .guard⟩], some (50, false)⟩ (v := ?_) hS0 ?_ ?_
            rotate_left
            · intro X ⟨x0, x1, x2, x3, x4, x5, x6, x7⟩; go_simp; try with_reducible rfl
            simp only [Act.put, List.setIfInBounds_toArray, List.set_cons_zero, List.set_cons_succ, Array.toArray_toList]
            refine tkX 55 ⟨some 228, .move (.tmp 15), 75, "outright.go:126", #[⟨50, .guard⟩], some (50, false)⟩ (v := ?_) hS0 ?_ ?_
            rotate_left
            · intro X ⟨x0, x1, x2, x3, x4, x5, x6, x7⟩; go_simp; try with_reducible rfl
            simp only [Act.put, List.setIfInBounds_toArray, List.set_cons_zero, List.set_cons_succ, Array.toArray_toList]
            refine tkX 56 ⟨some 229, .move (.tmp 22), 3, "outright.go:126", #[⟨50, .guard⟩], some (50, false)⟩ (v := ?_) hS0 ?_ ?_
            rotate_left
            · intro X ⟨x0, x1, x2, x3, x4, x5, x6, x7⟩; go_simp; try with_reducible rfl
            simp only [Act.put, List.setIfInBounds_toArray, List.set_cons_zero, List.set_cons_succ, Array.toArray_toList]
            refine tkX 57 ⟨some 230, .indexAddr 75 (.tmp 228) (.tmp 229), 0, "outright.go:126", #[⟨55, .data⟩, ⟨56, .data⟩, ⟨50, .guard⟩], some (50, false)⟩ (v := ?_) hS0 ?_ ?_
            rotate_left
            · intro X ⟨x0, x1, x2, x3, x4, x5, x6, x7⟩; go_simp; try with_reducible rfl
            simp only [Act.put, List.setIfInBounds_toArray, List.set_cons_zero, List.set_cons_succ, Array.toArray_toList]
            refine tkX 58 ⟨some 231, .fieldAddr 36 (.tmp 230) 0, 0, "outright.go:126", #[⟨57, .data⟩, ⟨50, .guard⟩], some (50, false)⟩ (v := ?_) hS0 ?_ ?_
            rotate_left
            · intro X ⟨x0, x1, x2, x3, x4, x5, x6, x7⟩; go_simp; try with_reducible rfl
            simp only [Act.put, List.setIfInBounds_toArray, List.set_cons_zero, List.set_cons_succ, Array.toArray_toList]
            refine tkX 59 ⟨some 232, .load 3 (.tmp 231), 3, "outright.go:126", #[⟨58, .data⟩, ⟨50, .guard⟩], some (50, false)⟩ (v := ?_) hS0 ?_ ?_
            rotate_left
            · intro X ⟨x0, x1, x2, x3, x4, x5, x6, x7⟩; go_simp; try with_reducible rfl
            simp only [Act.put, List.setIfInBounds_toArray, List.set_cons_zero, List.set_cons_succ, Array.toArray_toList]
            refine tkX 60 ⟨some 233, .binOp .lss 3 (.tmp 227) (.tmp 232) 3, 4, "outright.go:126", #[⟨54, .data⟩, ⟨59, .data⟩, ⟨50, .guard⟩], some (50, false)⟩ (v := ?_) hS0 ?_ ?_
            rotate_left
            · intro X ⟨x0, x1, x2, x3, x4, x5, x6, x7⟩; go_simp; try with_reducible rfl
            simp only [Act.put, List.setIfInBounds_toArray, List.set_cons_zero, List.set_cons_succ, Array.toArray_toList]
            refine tkX 61 ⟨some 234, .pick (.tmp 223) (.const (.bool true)) (.tmp 233), 4, "outright.go:126", #[⟨50, .data⟩, ⟨60, .data⟩], none⟩ (v := ?_) hS0 ?_ ?_
            rotate_left
            · intro X ⟨x0, x1, x2, x3, x4, x5, x6, x7⟩; go_simp; try with_reducible rfl
            simp only [Act.put, List.setIfInBounds_toArray, List.set_cons_zero, List.set_cons_succ, Array.toArray_toList]
            refine tkX 62 ⟨some 235, .move (.tmp 234), 4, "outright.go:126", #[⟨61, .data⟩, ⟨50, .chain⟩], none⟩ (v := ?_) hS0 ?_ ?_
            rotate_left
            · intro X ⟨x0, x1, x2, x3, x4, x5, x6, x7⟩; go_simp; try with_reducible rfl
            simp only [Act.put, List.setIfInBounds_toArray, List.set_cons_zero, List.set_cons_succ, Array.toArray_toList]
            refine tkX 63 ⟨some 236, .move (.tmp 11), 27, "outright.go:126", #[⟨62, .guard⟩], some (62, false)⟩ (v := ?_) hS0 ?_ ?_
            rotate_left
            · intro X ⟨x0, x1, x2, x3, x4, x5, x6, x7⟩; go_simp; try with_reducible rfl
            simp only [Act.put, List.setIfInBounds_toArray, List.set_cons_zero, List.set_cons_succ, Array.toArray_toList]
            refine tkX 64 ⟨some 237, .move (.tmp 22), 3, "outright.go:126", #[⟨62, .guard⟩], some (62, false)⟩ (v := ?_) hS0 ?_ ?_
            rotate_left
            · intro X ⟨x0, x1, x2, x3, x4, x5, x6, x7⟩; go_simp; try with_reducible rfl
            simp only [Act.put, List.setIfInBounds_toArray, List.set_cons_zero, List.set_cons_succ, Array.toArray_toList]
            refine tkX 65 ⟨some 238, .indexAddr 27 (.tmp 236) (.tmp 237), 0, "outright.go:126", #[⟨63, .data⟩, ⟨64, .data⟩, ⟨62, .guard⟩], some (62, false)⟩ (v := ?_) hS0 ?_ ?_
            rotate_left
            · intro X ⟨x0, x1, x2, x3, x4, x5, x6, x7⟩; go_simp; try with_reducible rfl
            simp only [Act.put, List.setIfInBounds_toArray, List.set_cons_zero, List.set_cons_succ, Array.toArray_toList]
            refine tkX 66 ⟨some 239, .load 3 (.tmp 238), 3, "outright.go:126", #[⟨65, .data⟩, ⟨62, .guard⟩], some (62, false)⟩ (v := ?_) hS0 ?_ ?_
            rotate_left
            · intro X ⟨x0, x1, x2, x3, x4, x5, x6, x7⟩; go_simp; try with_reducible rfl
            simp only [Act.put, List.setIfInBounds_toArray, List.set_cons_zero, List.set_cons_succ, Array.toArray_toList]
            refine tkX 67 ⟨some 240, .move (.tmp 15), 75, "outright.go:126", #[⟨62, .guard⟩], some (62, false)⟩ (v := ?_) hS0 ?_ ?_
            rotate_left
            · intro X ⟨x0, x1, x2, x3, x4, x5, x6, x7⟩; go_simp; try with_reducible rfl
            simp only [Act.put, List.setIfInBounds_toArray, List.set_cons_zero, List.set_cons_succ, Array.toArray_toList]
            refine tkX 68 ⟨some 241, .move (.tmp 22), 3, "outright.go:126", #[⟨62, .guard⟩], some (62, false)⟩ (v := ?_) hS0 ?_ ?_
            rotate_left
            · intro X ⟨x0, x1, x2, x3, x4, x5, x6, x7⟩; go_simp; try with_reducible rfl
            simp only [Act.put, List.setIfInBounds_toArray, List.set_cons_zero, List.set_cons_succ, Array.toArray_toList]
            refine tkX 69 ⟨some 242, .indexAddr 75 (.tmp 240) (.tmp 241), 0, "outright.go:126", #[⟨67, .data⟩, ⟨68, .data⟩, ⟨62, .guard⟩], some (62, false)⟩ (v := ?_) hS0 ?_ ?_
            rotate_left
            · intro X ⟨x0, x1, x2, x3, x4, x5, x6, x7⟩; go_simp; try with_reducible rfl
            simp only [Act.put, List.setIfInBounds_toArray, List.set_cons_zero, List.set_cons_succ, Array.toArray_toList]
            refine tkX 70 ⟨some 243, .fieldAddr 36 (.tmp 242) 1, 0, "outright.go:126", #[⟨69, .data⟩, ⟨62, .guard⟩], some (62, false)⟩ (v := ?_) hS0 ?_ ?_
            rotate_left
            · intro X ⟨x0, x1, x2, x3, x4, x5, x6, x7⟩; go_simp; try with_reducible rfl
            simp only [Act.put, List.setIfInBounds_toArray, List.set_cons_zero, List.set_cons_succ, Array.toArray_toList]
            refine tkX 71 ⟨some 244, .load 3 (.tmp 243), 3, "outright.go:126", #[⟨70, .data⟩, ⟨62, .guard⟩], some (62, false)⟩ (v := ?_) hS0 ?_ ?_
            rotate_left
            · intro X ⟨x0, x1, x2, x3, x4, x5, x6, x7⟩; go_simp; try with_reducible rfl
            simp only [Act.put, List.setIfInBounds_toArray, List.set_cons_zero, List.set_cons_succ, Array.toArray_toList]
            refine tkX 72 ⟨some 245, .binOp .gtr 3 (.tmp 239) (.tmp 244) 3, 4, "outright.go:126", #[⟨66, .data⟩, ⟨71, .data⟩, ⟨62, .guard⟩], some (62, false)⟩ (v := ?_) hS0 ?_ ?_
            rotate_left
            · intro X ⟨x0, x1, x2, x3, x4, x5, x6, x7⟩; go_simp; try with_reducible rfl
            simp only [Act.put, List.setIfInBounds_toArray, List.set_cons_zero, List.set_cons_succ, Array.toArray_toList]
            refine tkX 73 ⟨some 246, .pick (.tmp 235) (.const (.bool true)) (.tmp 245), 4, "outright.go:126", #[⟨62, .data⟩, ⟨72, .data⟩], none⟩ (v := ?_) hS0 ?_ ?_
            rotate_left
            · intro X ⟨x0, x1, x2, x3, x4, x5, x6, x7⟩; go_simp; try with_reducible rfl
            simp only [Act.put, List.setIfInBounds_toArray, List.set_cons_zero, List.set_cons_succ, Array.toArray_toList]
            refine wpAnyH_done (by as_aux_lemma => kernel_rfl) ?_ _
            clear hS0
            go_wp2_with fail
            go_meet
            case rel => exact ⟨rfl, by first | exact ((Below.refl _ wr).drewN _).drew | exact (((Below.refl _ wr).drewN _).drewN _).drew | exact ((((Below.refl _ wr).drewN _).drewN _).drewN _) | exact ((Below.refl _ wr).drewN _).drewN _⟩
        case rest =>
          obtain ⟨rfl, hbc⟩ := hcut
          generalize wc = v at hbc ⊢
          have HBC := Lib.hid hbc
          have HXV := Lib.hid (HX.out.trans (hbc.mono HX.out.size))
          replace f1 := cell_later hbc f1
          replace f3 := cell_later hbc f3
          clear hbc s0 s1 s2 s3 s4 p0 p1 t0 t1 d0 d1 d2 a0 f2 g0 g1
          cases LT with
          | true =>
            have hu := HLIT.out rfl
            have z8 : (U != N) = false := by simp [hu]
            clear hu
            go_wp2_with fail
            go_roundw
            case rel => exact ⟨j + 1, by omega, by go_num, by rw [HLF.out], HXV.out⟩
            case measure => simp [intOf]; omega
          | false =>
            obtain ⟨h1, h2, h3⟩ := HDRK.out rfl
            have z9 : decide (U ≥ N) = false := by simp; omega
            have z9' : decide (N ≤ U) = false := by simp; omega
            have z10 : (LF != 0) = false := by simp [h2]
            rw [h3] at hhas
            clear h1 h2 h3
            go_wp2_with fail
            refine (hhas.out _ HXV.out).mono ?_
            rintro e wz ⟨rfl, rfl⟩
            go_wp2_with fail
            go_roundw
            case rel => exact ⟨j + 1, by omega, by go_num, by rw [HLF.out], HXV.out⟩
            case measure => simp [intOf]; omega
      · have hlt' : decide ((j : Int) < (s.ns.length : Int)) = false := by simpa using hlt
        go_wp2_with fail
        refine (awake_any _).mono ?_
        rintro e wz ⟨rfl, hbz⟩
        go_wp2_with fail
        go_ret
        exact ⟨rfl, HBX.out.trans (hbz.mono HBX.out.size)⟩
end Go.Proofs.Ytefhdcecbmgljaa

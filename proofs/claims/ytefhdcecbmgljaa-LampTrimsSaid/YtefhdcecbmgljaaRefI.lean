/-
  The reference's Play.
-/
import Derived.Test.YtefhdcecbmgljaaPlay
import Derived.Test.YtefhdcecbmgljaaRefH
set_option linter.all false
namespace Go.Proofs.Ytefhdcecbmgljaa
open Go.RowKit Go.WalkArith

def RPlayPost (s : St) (c k : List Int) (t : Int) (bs : List Int) (w : World) (e : Ending) (w' : World) : Prop :=
  Below w.heap.size w w' ∧ ∃ v1 v2 v3, e = .returned (.tuple #[v1, v2, v3]) ∧ PlayOk s c k t bs w.heap.size s.ns.length v1 v2 v3 w'
theorem rp_bd {X Y Z : Int} {s : St} {j : Nat} (h : StOk s) (hj : j < s.ns.length) (hx : 0 ≤ X ∧ X ≤ 2) (hy : 0 ≤ Y ∧ Y ≤ 4) (hz : 0 ≤ Z ∧ Z ≤ 10) :
    (0 ≤ X * s.can ∧ X * s.can ≤ 400) ∧ (0 ≤ (ntAt s j).h * Y ∧ (ntAt s j).h * Y ≤ 56) ∧ (0 ≤ (ntAt s j).h * Y * Z ∧ (ntAt s j).h * Y * Z ≤ 560) := by
  have h0 := h.k0
  have h1 := h.k1
  have h2 := h.nt j hj
  have a1 : X * s.can ≤ 2 * 200 := Int.mul_le_mul hx.2 h1 (by omega) (by omega)
  have a2 : 0 ≤ X * s.can := Int.mul_nonneg hx.1 (by omega)
  have a3 : (ntAt s j).h * Y ≤ 14 * 4 := Int.mul_le_mul (by omega) hy.2 hy.1 (by omega)
  have a4 : 0 ≤ (ntAt s j).h * Y := Int.mul_nonneg (by omega) hy.1
  have a5 : (ntAt s j).h * Y * Z ≤ 56 * 10 := Int.mul_le_mul (by omega) hz.2 hz.1 (by omega)
  have a6 : 0 ≤ (ntAt s j).h * Y * Z := Int.mul_nonneg a4 hz.1
  omega

set_option maxRecDepth 100000 in
set_option maxHeartbeats 8000000 in
theorem rplay_any (s : St) (A : Option Addr) (cp : Nat) (Ac Ak : Option Addr) (cc ck : Nat) (c k : List Int) (t : Int) (Ab : Option Addr) (cb : Nat) (bs : List Int) (w : World) (hok : planL s c k = 0) (htb : truthB s t bs = true) (hA : NtsAt w A s.ns) (hc : IntsAt w (.slice Ac c.length cc) c) (hk : IntsAt w (.slice Ak k.length ck) k) (hv : IntsAt w (.slice Ab bs.length cb) bs) :
    Calls Try.prog 26 #[.agg #[.int .i64 s.cap, .int .i64 s.can, .int .i64 s.sl, .int .i64 s.sh, .slice A s.ns.length cp], .agg #[.slice Ac c.length cc, .slice Ak k.length ck], .agg #[.int .i64 t, .slice Ab bs.length cb]] w (RPlayPost s c k t bs w) := by
  have HA := Lib.hid hA
  have HC := Lib.hid hc
  have HK := Lib.hid hk
  have HV := Lib.hid hv
  obtain ⟨h, hcl', hkl', hpl⟩ := planL_zero.1 hok
  obtain ⟨hbl2, htt⟩ := truthB_true.1 htb
  have HO := Lib.hid h
  have HPL := Lib.hid hpl
  have HCL := Lib.hid hcl'
  have HKL := Lib.hid hkl'
  have HBL := Lib.hid hbl2
  have HTT := Lib.hid htt
  have hlen := h.len
  clear hA hc hk hv hok htb h hcl' hkl' hpl hbl2 htt
  have hB0 : Below w.heap.size w (((w.alloc (.cells #[.int .i64 s.cap, .int .i64 s.can, .int .i64 s.sl, .int .i64 s.sh, .slice A s.ns.length cp] 26)).alloc (.cells #[.slice Ac c.length cc, .slice Ak k.length ck] 29)).alloc (.cells #[.int .i64 t, .slice Ab bs.length cb] 31)) := (((Below.refl _ _).alloc (Nat.le_refl _) _).alloc (by simp) _).alloc (by simp; omega) _
  have hn0 : (((w.alloc (.cells #[.int .i64 s.cap, .int .i64 s.can, .int .i64 s.sl, .int .i64 s.sh, .slice A s.ns.length cp] 26)).alloc (.cells #[.slice Ac c.length cc, .slice Ak k.length ck] 29)).alloc (.cells #[.int .i64 t, .slice Ab bs.length cb] 31)).heap[w.heap.size]? = some (.cells #[.int .i64 s.cap, .int .i64 s.can, .int .i64 s.sl, .int .i64 s.sh, .slice A s.ns.length cp] 26 (0, 0)) := (Below.heap_alloc _ _ _ (by simp <;> omega)).trans ((Below.heap_alloc _ _ _ (by simp <;> omega)).trans (heap_new_at _ _ _ rfl))
  have hn1 : (((w.alloc (.cells #[.int .i64 s.cap, .int .i64 s.can, .int .i64 s.sl, .int .i64 s.sh, .slice A s.ns.length cp] 26)).alloc (.cells #[.slice Ac c.length cc, .slice Ak k.length ck] 29)).alloc (.cells #[.int .i64 t, .slice Ab bs.length cb] 31)).heap[w.heap.size + 1]? = some (.cells #[.slice Ac c.length cc, .slice Ak k.length ck] 29 (0, 0)) := (Below.heap_alloc _ _ _ (by simp <;> omega)).trans (heap_new_at _ _ _ (by simp))
  have hn2 : (((w.alloc (.cells #[.int .i64 s.cap, .int .i64 s.can, .int .i64 s.sl, .int .i64 s.sh, .slice A s.ns.length cp] 26)).alloc (.cells #[.slice Ac c.length cc, .slice Ak k.length ck] 29)).alloc (.cells #[.int .i64 t, .slice Ab bs.length cb] 31)).heap[w.heap.size + 1 + 1]? = some (.cells #[.int .i64 t, .slice Ab bs.length cb] 31 (0, 0)) := heap_new_at _ _ _ (by simp)
  have HB1 := Lib.hid hB0
  have NBs1 := Lib.hid hn0
  have NBp1 := Lib.hid hn1
  have NBt1 := Lib.hid hn2
  clear hB0 hn0 hn1 hn2
  go_enter Try.func26, Try.ntmps26
  go_wp2_with fail
  generalize (((w.alloc (.cells #[.int .i64 s.cap, .int .i64 s.can, .int .i64 s.sl, .int .i64 s.sh, .slice A s.ns.length cp] 26)).alloc (.cells #[.slice Ac c.length cc, .slice Ak k.length ck] 29)).alloc (.cells #[.int .i64 t, .slice Ab bs.length cb] 31)) = w1 at HB1 NBs1 NBp1 NBt1 ⊢
  obtain ⟨Bt, hBt⟩ : ∃ Bt, w.heap.size + 1 + 1 = Bt := ⟨_, rfl⟩
  obtain ⟨Bp, hBp⟩ : ∃ Bp, w.heap.size + 1 = Bp := ⟨_, rfl⟩
  obtain ⟨Bs, hBs⟩ : ∃ Bs, w.heap.size = Bs := ⟨_, rfl⟩
  have oBt : w.heap.size ≤ Bt := by omega
  have oBsBt : Bs < Bt := by omega
  have oBpBt : Bp < Bt := by omega
  have oBp : w.heap.size ≤ Bp := by omega
  have oBsBp : Bs < Bp := by omega
  have oBs : w.heap.size ≤ Bs := by omega
  rw [hBt] at NBt1 ⊢
  rw [hBp] at NBp1 ⊢
  rw [hBs] at NBs1 ⊢
  clear hBs hBp hBt
  have cBs0_1 : w1.cell? ⟨Bs, 0, none⟩ = some (.int .i64 s.cap) := by simp [World.cell?, NBs1.out]
  have cBs1_1 : w1.cell? ⟨Bs, 1, none⟩ = some (.int .i64 s.can) := by simp [World.cell?, NBs1.out]
  have cBs2_1 : w1.cell? ⟨Bs, 2, none⟩ = some (.int .i64 s.sl) := by simp [World.cell?, NBs1.out]
  have cBs3_1 : w1.cell? ⟨Bs, 3, none⟩ = some (.int .i64 s.sh) := by simp [World.cell?, NBs1.out]
  have cBs4_1 : w1.cell? ⟨Bs, 4, none⟩ = some (.slice A s.ns.length cp) := by simp [World.cell?, NBs1.out]
  have cBp0_1 : w1.cell? ⟨Bp, 0, none⟩ = some (.slice Ac c.length cc) := by simp [World.cell?, NBp1.out]
  have cBp1_1 : w1.cell? ⟨Bp, 1, none⟩ = some (.slice Ak k.length ck) := by simp [World.cell?, NBp1.out]
  have cBt0_1 : w1.cell? ⟨Bt, 0, none⟩ = some (.int .i64 t) := by simp [World.cell?, NBt1.out]
  have cBt1_1 : w1.cell? ⟨Bt, 1, none⟩ = some (.slice Ab bs.length cb) := by simp [World.cell?, NBt1.out]
  go_wp2_with fail
  go_loopw [9, 10, 11, 12, 13] (fun v1 v2 v3 oil i wr => PlRel s c k t bs w Bs Bp Bt (.cells #[.int .i64 s.cap, .int .i64 s.can, .int .i64 s.sl, .int .i64 s.sh, .slice A s.ns.length cp] 26 (0, 0)) (.cells #[.slice Ac c.length cc, .slice Ak k.length ck] 29 (0, 0)) (.cells #[.int .i64 t, .slice Ab bs.length cb] 31 (0, 0)) v1 v2 v3 oil i wr) (fun _ _ _ _ i _ => s.ns.length - (intOf i).toNat)
  case atStart => exact ⟨0, by omega, rfl, rfl, ⟨World.ownsRow_nil _ _ _ _, World.ownsRow_nil _ _ _ _, World.ownsRow_nil _ _ _ _⟩, Apart.nil _, Apart.nil _, Apart.nil _, NBs1.out, NBp1.out, NBt1.out, HB1.out⟩
  case round =>
    clear cBs0_1 cBs1_1 cBs2_1 cBs3_1 cBs4_1 cBp0_1 cBp1_1 cBt0_1 cBt1_1 HB1 NBs1 NBp1 NBt1
    obtain ⟨j, hj, rfl, rfl, ⟨ho1, ho2, ho3⟩, ha1, ha2, ha3, hn0, hn1, hn2, hbe⟩ := hrel
    have HBE := Lib.hid hbe
    have HN0 := Lib.hid hn0
    have HN1 := Lib.hid hn1
    have HN2 := Lib.hid hn2
    have HO1 := Lib.hid ho1
    have HO2 := Lib.hid ho2
    have HO3 := Lib.hid ho3
    have HA1 := Lib.hid ha1
    have HA2 := Lib.hid ha2
    have HA3 := Lib.hid ha3
    have lBs := (Array.getElem?_eq_some_iff.1 hn0).1
    have lBp := (Array.getElem?_eq_some_iff.1 hn1).1
    have lBt := (Array.getElem?_eq_some_iff.1 hn2).1
    have s0 : wr.cell? ⟨Bs, 0, none⟩ = some (.int .i64 s.cap) := by simp [World.cell?, hn0]
    have s1 : wr.cell? ⟨Bs, 1, none⟩ = some (.int .i64 s.can) := by simp [World.cell?, hn0]
    have s4 : wr.cell? ⟨Bs, 4, none⟩ = some (.slice A s.ns.length cp) := by simp [World.cell?, hn0]
    have p0 : wr.cell? ⟨Bp, 0, none⟩ = some (.slice Ac c.length cc) := by simp [World.cell?, hn1]
    have p1 : wr.cell? ⟨Bp, 1, none⟩ = some (.slice Ak k.length ck) := by simp [World.cell?, hn1]
    have t1 : wr.cell? ⟨Bt, 1, none⟩ = some (.slice Ab bs.length cb) := by simp [World.cell?, hn2]
    clear hbe hn0 hn1 hn2 ho1 ho2 ho3 ha1 ha2 ha3
    by_cases hlt : j < s.ns.length
    · have hlt' : decide ((j : Int) < (s.ns.length : Int)) = true := by simpa using hlt
      obtain ⟨b, o, rfl, d0⟩ := (HC.out.keep HBE.out (Nat.le_refl _)).at (k := j) (by rw [HCL.out]; exact hlt)
      obtain ⟨b', o', rfl, d1⟩ := (HK.out.keep HBE.out (Nat.le_refl _)).at (k := j) (by rw [HKL.out]; exact hlt)
      obtain ⟨b2, o2, rfl, d2⟩ := (HV.out.keep HBE.out (Nat.le_refl _)).at (k := j) (by rw [HBL.out]; exact hlt)
      obtain ⟨b3, o3, rfl, a0, a1, a2, a3, a4⟩ := (HA.out.keep HBE.out (Nat.le_refl _)).at hlt
      rw [← ntAt_at hlt] at a0
      clear a1 a2 a3 a4
      have hpn := HPL.out.nn HO.out hlt
      have htn := HTT.out.nn HO.out hlt
      have hob := oilF_bd HO.out HPL.out HTT.out (i := j) (by omega)
      have hcap := HO.out.c1
      have hcap0 := HO.out.c0
      have hs1 := leftsL_succ s (atL c) (atL k) (atL bs) t j
      have hs2 := backsL_succ s (atL c) (atL k) (atL bs) t j
      have hs3 := litsL_succ s (atL c) (atL k) (atL bs) t j
      have hs4 : oilF s (atL c) (atL k) (atL bs) t (j + 1) = leftO s j (atL c j) (atL k j) (atL bs j) (oilF s (atL c) (atL k) (atL bs) t j) := rfl
      have hl1 := leftsL_len s (atL c) (atL k) (atL bs) t j
      have hl2 := backsL_len s (atL c) (atL k) (atL bs) t j
      have hl3 := litsL_len s (atL c) (atL k) (atL bs) t j
      have q1 : (leftsL s (atL c) (atL k) (atL bs) t j).length ≤ 1000000 := by omega
      have q2 : (backsL s (atL c) (atL k) (atL bs) t j).length ≤ 1000000 := by omega
      have q3 : (litsL s (atL c) (atL k) (atL bs) t j).length ≤ 1000000 := by omega
      clear hl1 hl2 hl3
      obtain ⟨X, hX⟩ : ∃ X, atL c j = X := ⟨_, rfl⟩
      obtain ⟨Y, hY⟩ : ∃ Y, atL k j = Y := ⟨_, rfl⟩
      obtain ⟨Z, hZ⟩ : ∃ Z, atL bs j = Z := ⟨_, rfl⟩
      obtain ⟨O, hO⟩ : ∃ O, oilF s (atL c) (atL k) (atL bs) t j = O := ⟨_, rfl⟩
      rw [hX] at d0 hpn
      rw [hY] at d1 hpn
      rw [hZ] at d2 htn
      rw [hO] at hob
      rw [hX, hY, hZ, hO] at hs1 hs3 hs4
      rw [hX, hO] at hs2
      rw [hO]
      obtain ⟨⟨bp0, bp1⟩, ⟨bq0, bq1⟩, bn0, bn1⟩ := rp_bd HO.out hlt (X := X) (Y := Y) (Z := Z) (by omega) (by omega) (by omega)
      have hnow : nowO s X O = min s.cap (O + X * s.can) := rfl
      have hneed : needO s j Y Z = (ntAt s j).h * Y * Z := rfl
      have hleft : leftO s j X Y Z O = if nowO s X O < needO s j Y Z then 0 else nowO s X O - needO s j Y Z := rfl
      have hlit : litO s j X Y Z O = decide (needO s j Y Z ≤ nowO s X O) := rfl
      obtain ⟨nh, hnh⟩ : ∃ nh, (ntAt s j).h = nh := ⟨_, rfl⟩
      rw [hnh] at a0 hneed bq0 bq1 bn0 bn1
      obtain ⟨P, hP⟩ : ∃ P, X * s.can = P := ⟨_, rfl⟩
      have w1' : IntKind.i64.wrap (X * s.can) = P := by rw [hP]; exact IntWalk.i64_in _ (by omega)
      rw [hP] at hnow hs2 bp0 bp1
      obtain ⟨S1, hS1⟩ : ∃ S1, O + P = S1 := ⟨_, rfl⟩
      have w2' : IntKind.i64.wrap (O + P) = S1 := by rw [hS1]; exact IntWalk.i64_in _ (by omega)
      rw [hS1] at hnow hs2
      obtain ⟨D, hD⟩ : ∃ D, S1 - s.cap = D := ⟨_, rfl⟩
      have w3' : IntKind.i64.wrap (S1 - s.cap) = D := by rw [hD]; exact IntWalk.i64_in _ (by omega)
      obtain ⟨R1, hR1⟩ : ∃ R1, nh * Y = R1 := ⟨_, rfl⟩
      have w5' : IntKind.i64.wrap (nh * Y) = R1 := by rw [hR1]; exact IntWalk.i64_in _ (by omega)
      rw [hR1] at hneed bq0 bq1 bn0 bn1
      obtain ⟨R, hR⟩ : ∃ R, R1 * Z = R := ⟨_, rfl⟩
      have w6' : IntKind.i64.wrap (R1 * Z) = R := by rw [hR]; exact IntWalk.i64_in _ (by omega)
      rw [hR] at hneed bn0 bn1
      rw [hneed] at hleft hlit
      obtain ⟨N, hN⟩ : ∃ N, nowO s X O = N := ⟨_, rfl⟩
      rw [hN] at hleft hlit hnow hs2
      obtain ⟨V, hV⟩ : ∃ V, S1 - N = V := ⟨_, rfl⟩
      rw [hV] at hs2
      obtain ⟨L, hL⟩ : ∃ L, leftO s j X Y Z O = L := ⟨_, rfl⟩
      obtain ⟨T, hT⟩ : ∃ T, litO s j X Y Z O = T := ⟨_, rfl⟩
      rw [hL] at hs1 hs4 hleft
      rw [hT] at hs3 hlit
      have HS1 := Lib.hid hs1
      have HS2 := Lib.hid hs2
      have HS3 := Lib.hid hs3
      have HS4 := Lib.hid hs4
      have i1 : (0 : Int) ≤ (j : Int) := by omega
      have i2 : (j : Int) < (c.length : Int) := by rw [HCL.out]; omega
      have i3 : (j : Int) < (k.length : Int) := by rw [HKL.out]; omega
      have i4 : (j : Int) < (bs.length : Int) := by rw [HBL.out]; omega
      have i5 : (j : Int) < (s.ns.length : Int) := by omega
      clear hs1 hs2 hs3 hs4 hX hY hZ hO hnh hP hR1 hR hneed hN hL hT hpn htn bq0 bq1
      by_cases hov : 0 < D
      · have o1 : decide ((0 : Int) < D) = true := by simpa using hov
        have o2 : decide (D < 0) = false := by simp; omega
        by_cases hli : R ≤ N
        · obtain rfl : D = V := by omega
          have hx4 : IntKind.i64.wrap (S1 - D) = N := by rw [show S1 - D = N by omega]; exact IntWalk.i64_in _ (by omega)
          obtain rfl : T = true := by rw [hlit]; simpa using hli
          have hli1 : decide (N ≥ R) = true := by simpa using hli
          have hli2 : decide (R ≤ N) = true := by simpa using hli
          have hle : N - R = L := by rw [hleft, if_neg (by omega)]
          have w7 : IntKind.i64.wrap (N - R) = L := by rw [hle]; exact IntWalk.i64_in _ (by omega)
          clear hleft hlit hnow hV hD hS1 hob hcap hcap0 bn0 bn1 bp0 bp1 hle
          go_wp2_with fail
          go_quiet (fail)
          go_wp2_with fail
          go_quiet (fail)
          -- the three appends
          clear a0 d0 d1 d2 s0 s1 s4 p0 p1 t1
          generalize hwq : (wr.drewN _).drewN _ = w4
          have hw4 : Below wr.heap.size wr w4 := by rw [← hwq]; exact ((Below.refl _ wr).drewN _).drewN _
          clear hwq
          have HO14 := Lib.hid (HO1.out.kept (Go_grown_of_below hw4) (own_none _))
          have HO24 := Lib.hid (HO2.out.kept (Go_grown_of_below hw4) (own_none _))
          have HO34 := Lib.hid (HO3.out.kept (Go_grown_of_below hw4) (own_none _))
          have HN04 := Lib.hid ((hw4.block Bs lBs).trans HN0.out)
          have HN14 := Lib.hid ((hw4.block Bp lBp).trans HN1.out)
          have HN24 := Lib.hid ((hw4.block Bt lBt).trans HN2.out)
          have HBE4 := Lib.hid (HBE.out.trans (hw4.mono HBE.out.size))
          have l4 := hw4.size
          clear hw4 HO1 HO2 HO3 HN0 HN1 HN2 HBE
          go_wp2_with (at_builtin; refine wpList_app_int rfl _ _ rfl (Bt + 1) u9 (leftsL s (atL c) (atL k) (atL bs) t j) L w4.heap.size rfl (HO14.out.alloc _) rfl (Go.heap_alloc_new w4 _) q1 (by simp; omega) _ rfl ?_)
          intro g1 cap1 w5 hown5 hg5 hat5 hlt5
          have b5 : Below (Bt + 1) (w4.alloc (.cells #[.int .i64 L] 3)) w5 := below_of_grown hg5 (HO14.out.alloc _) (Nat.le_refl _) (by simp; omega)
          have x5 : Below (Bt + 1) w4 w5 := ((Below.refl _ w4).alloc (by omega) _).trans b5
          have HO25 := Lib.hid ((HO24.out.alloc (.cells #[.int .i64 L] 3)).kept hg5 HA1.out.symm.row)
          have HO35 := Lib.hid ((HO34.out.alloc (.cells #[.int .i64 L] 3)).kept hg5 HA2.out.symm.row)
          have A1 := Lib.hid (HA1.out.symm.grown (n := (leftsL s (atL c) (atL k) (atL bs) t j).length + 1) (cap := cap1) hat5 (fun m hm => by have := HO24.out.lt m hm; simp; omega))
          have A2 := Lib.hid (HA2.out.symm.grown (n := (leftsL s (atL c) (atL k) (atL bs) t j).length + 1) (cap := cap1) hat5 (fun m hm => by have := HO34.out.lt m hm; simp; omega))
          have HO15 := Lib.hid hown5
          have X5 := Lib.hid x5
          have l5 := x5.size
          clear hown5 hg5 hat5 hlt5 b5 x5 HO14 HO24 HO34 HA1 HA2
          go_wp2_with (at_builtin; refine wpList_app_int rfl _ _ rfl (Bt + 1) u10 (backsL s (atL c) (atL k) (atL bs) t j) D w5.heap.size rfl (HO25.out.alloc _) rfl (Go.heap_alloc_new w5 _) q2 (by simp; omega) _ rfl ?_)
          intro g2 cap2 w6 hown6 hg6 hat6 hlt6
          have b6 : Below (Bt + 1) (w5.alloc (.cells #[.int .i64 D] 3)) w6 := below_of_grown hg6 (HO25.out.alloc _) (Nat.le_refl _) (by simp; omega)
          have x6 : Below (Bt + 1) w4 w6 := (X5.out.alloc (by omega) _).trans b6
          have HO16 := Lib.hid ((HO15.out.alloc (.cells #[.int .i64 D] 3)).kept hg6 A1.out.symm.row)
          have HO36 := Lib.hid ((HO35.out.alloc (.cells #[.int .i64 D] 3)).kept hg6 HA3.out.symm.row)
          have A1' := Lib.hid (A1.out.symm.grown (n := (backsL s (atL c) (atL k) (atL bs) t j).length + 1) (cap := cap2) hat6 (fun m hm => by have := HO15.out.lt m hm; simp; omega))
          have A3 := Lib.hid (HA3.out.symm.grown (n := (backsL s (atL c) (atL k) (atL bs) t j).length + 1) (cap := cap2) hat6 (fun m hm => by have := HO35.out.lt m hm; simp; omega))
          have HO26 := Lib.hid hown6
          have X6 := Lib.hid x6
          have l6 := x6.size
          clear hown6 hg6 hat6 hlt6 b6 x6 HO15 HO25 HO35 HA3 A1 X5
          go_wp2_with (at_builtin; refine wpList_app_bool rfl _ _ rfl (Bt + 1) u11 (litsL s (atL c) (atL k) (atL bs) t j) true w6.heap.size rfl (HO36.out.alloc _) rfl (Go.heap_alloc_new w6 _) q3 (by simp; omega) _ rfl ?_)
          intro g3 cap3 w7 hown7 hg7 hat7 hlt7
          have b7 : Below (Bt + 1) (w6.alloc (.cells #[.bool true] 4)) w7 := below_of_grown hg7 (HO36.out.alloc _) (Nat.le_refl _) (by simp; omega)
          have x7 : Below (Bt + 1) w4 w7 := (X6.out.alloc (by omega) _).trans b7
          have HO17 := Lib.hid ((HO16.out.alloc (.cells #[.bool true] 4)).kept hg7 A2.out.symm.row)
          have HO27 := Lib.hid ((HO26.out.alloc (.cells #[.bool true] 4)).kept hg7 A3.out.symm.row)
          have A2' := Lib.hid (A2.out.symm.grown (n := (litsL s (atL c) (atL k) (atL bs) t j).length + 1) (cap := cap3) hat7 (fun m hm => by have := HO16.out.lt m hm; simp; omega))
          have A3' := Lib.hid (A3.out.symm.grown (n := (litsL s (atL c) (atL k) (atL bs) t j).length + 1) (cap := cap3) hat7 (fun m hm => by have := HO26.out.lt m hm; simp; omega))
          have HO37 := Lib.hid hown7
          have HN07 := Lib.hid ((x7.block Bs (by omega)).trans HN04.out)
          have HN17 := Lib.hid ((x7.block Bp (by omega)).trans HN14.out)
          have HN27 := Lib.hid ((x7.block Bt (by omega)).trans HN24.out)
          have HBE7 := Lib.hid (HBE4.out.trans (x7.mono (by omega)))
          clear hown7 hg7 hat7 hlt7 b7 x7 HO16 HO26 HO36 A2 A3 X6 HN04 HN14 HN24 HBE4
          go_wp2_with fail
          go_roundw
          case rel => exact ⟨j + 1, by omega, by go_num, by rw [HS4.out], ⟨by rw [HS1.out, List.map_append, List.length_append]; simpa using HO17.out, by rw [HS2.out, List.map_append, List.length_append]; simpa using HO27.out, by rw [HS3.out, List.map_append, List.length_append]; simpa using HO37.out⟩, A1'.out, A2'.out, A3'.out, HN07.out, HN17.out, HN27.out, HBE7.out⟩
          case measure => simp [intOf]; omega
        · obtain rfl : D = V := by omega
          have hx4 : IntKind.i64.wrap (S1 - D) = N := by rw [show S1 - D = N by omega]; exact IntWalk.i64_in _ (by omega)
          obtain rfl : T = false := by rw [hlit]; simpa using hli
          have hli1 : decide (N ≥ R) = false := by simpa using hli
          have hli2 : decide (R ≤ N) = false := by simpa using hli
          obtain rfl : L = 0 := by rw [hleft, if_pos (by omega)]
          clear hleft hlit hnow hV hD hS1 hob hcap hcap0 bn0 bn1 bp0 bp1
          go_wp2_with fail
          go_quiet (fail)
          go_wp2_with fail
          go_quiet (fail)
          -- the three appends
          clear a0 d0 d1 d2 s0 s1 s4 p0 p1 t1
          generalize hwq : (wr.drewN _).drewN _ = w4
          have hw4 : Below wr.heap.size wr w4 := by rw [← hwq]; exact ((Below.refl _ wr).drewN _).drewN _
          clear hwq
          have HO14 := Lib.hid (HO1.out.kept (Go_grown_of_below hw4) (own_none _))
          have HO24 := Lib.hid (HO2.out.kept (Go_grown_of_below hw4) (own_none _))
          have HO34 := Lib.hid (HO3.out.kept (Go_grown_of_below hw4) (own_none _))
          have HN04 := Lib.hid ((hw4.block Bs lBs).trans HN0.out)
          have HN14 := Lib.hid ((hw4.block Bp lBp).trans HN1.out)
          have HN24 := Lib.hid ((hw4.block Bt lBt).trans HN2.out)
          have HBE4 := Lib.hid (HBE.out.trans (hw4.mono HBE.out.size))
          have l4 := hw4.size
          clear hw4 HO1 HO2 HO3 HN0 HN1 HN2 HBE
          go_wp2_with (at_builtin; refine wpList_app_int rfl _ _ rfl (Bt + 1) u9 (leftsL s (atL c) (atL k) (atL bs) t j) 0 w4.heap.size rfl (HO14.out.alloc _) rfl (Go.heap_alloc_new w4 _) q1 (by simp; omega) _ rfl ?_)
          intro g1 cap1 w5 hown5 hg5 hat5 hlt5
          have b5 : Below (Bt + 1) (w4.alloc (.cells #[.int .i64 0] 3)) w5 := below_of_grown hg5 (HO14.out.alloc _) (Nat.le_refl _) (by simp; omega)
          have x5 : Below (Bt + 1) w4 w5 := ((Below.refl _ w4).alloc (by omega) _).trans b5
          have HO25 := Lib.hid ((HO24.out.alloc (.cells #[.int .i64 0] 3)).kept hg5 HA1.out.symm.row)
          have HO35 := Lib.hid ((HO34.out.alloc (.cells #[.int .i64 0] 3)).kept hg5 HA2.out.symm.row)
          have A1 := Lib.hid (HA1.out.symm.grown (n := (leftsL s (atL c) (atL k) (atL bs) t j).length + 1) (cap := cap1) hat5 (fun m hm => by have := HO24.out.lt m hm; simp; omega))
          have A2 := Lib.hid (HA2.out.symm.grown (n := (leftsL s (atL c) (atL k) (atL bs) t j).length + 1) (cap := cap1) hat5 (fun m hm => by have := HO34.out.lt m hm; simp; omega))
          have HO15 := Lib.hid hown5
          have X5 := Lib.hid x5
          have l5 := x5.size
          clear hown5 hg5 hat5 hlt5 b5 x5 HO14 HO24 HO34 HA1 HA2
          go_wp2_with (at_builtin; refine wpList_app_int rfl _ _ rfl (Bt + 1) u10 (backsL s (atL c) (atL k) (atL bs) t j) D w5.heap.size rfl (HO25.out.alloc _) rfl (Go.heap_alloc_new w5 _) q2 (by simp; omega) _ rfl ?_)
          intro g2 cap2 w6 hown6 hg6 hat6 hlt6
          have b6 : Below (Bt + 1) (w5.alloc (.cells #[.int .i64 D] 3)) w6 := below_of_grown hg6 (HO25.out.alloc _) (Nat.le_refl _) (by simp; omega)
          have x6 : Below (Bt + 1) w4 w6 := (X5.out.alloc (by omega) _).trans b6
          have HO16 := Lib.hid ((HO15.out.alloc (.cells #[.int .i64 D] 3)).kept hg6 A1.out.symm.row)
          have HO36 := Lib.hid ((HO35.out.alloc (.cells #[.int .i64 D] 3)).kept hg6 HA3.out.symm.row)
          have A1' := Lib.hid (A1.out.symm.grown (n := (backsL s (atL c) (atL k) (atL bs) t j).length + 1) (cap := cap2) hat6 (fun m hm => by have := HO15.out.lt m hm; simp; omega))
          have A3 := Lib.hid (HA3.out.symm.grown (n := (backsL s (atL c) (atL k) (atL bs) t j).length + 1) (cap := cap2) hat6 (fun m hm => by have := HO35.out.lt m hm; simp; omega))
          have HO26 := Lib.hid hown6
          have X6 := Lib.hid x6
          have l6 := x6.size
          clear hown6 hg6 hat6 hlt6 b6 x6 HO15 HO25 HO35 HA3 A1 X5
          go_wp2_with (at_builtin; refine wpList_app_bool rfl _ _ rfl (Bt + 1) u11 (litsL s (atL c) (atL k) (atL bs) t j) false w6.heap.size rfl (HO36.out.alloc _) rfl (Go.heap_alloc_new w6 _) q3 (by simp; omega) _ rfl ?_)
          intro g3 cap3 w7 hown7 hg7 hat7 hlt7
          have b7 : Below (Bt + 1) (w6.alloc (.cells #[.bool false] 4)) w7 := below_of_grown hg7 (HO36.out.alloc _) (Nat.le_refl _) (by simp; omega)
          have x7 : Below (Bt + 1) w4 w7 := (X6.out.alloc (by omega) _).trans b7
          have HO17 := Lib.hid ((HO16.out.alloc (.cells #[.bool false] 4)).kept hg7 A2.out.symm.row)
          have HO27 := Lib.hid ((HO26.out.alloc (.cells #[.bool false] 4)).kept hg7 A3.out.symm.row)
          have A2' := Lib.hid (A2.out.symm.grown (n := (litsL s (atL c) (atL k) (atL bs) t j).length + 1) (cap := cap3) hat7 (fun m hm => by have := HO16.out.lt m hm; simp; omega))
          have A3' := Lib.hid (A3.out.symm.grown (n := (litsL s (atL c) (atL k) (atL bs) t j).length + 1) (cap := cap3) hat7 (fun m hm => by have := HO26.out.lt m hm; simp; omega))
          have HO37 := Lib.hid hown7
          have HN07 := Lib.hid ((x7.block Bs (by omega)).trans HN04.out)
          have HN17 := Lib.hid ((x7.block Bp (by omega)).trans HN14.out)
          have HN27 := Lib.hid ((x7.block Bt (by omega)).trans HN24.out)
          have HBE7 := Lib.hid (HBE4.out.trans (x7.mono (by omega)))
          clear hown7 hg7 hat7 hlt7 b7 x7 HO16 HO26 HO36 A2 A3 X6 HN04 HN14 HN24 HBE4
          go_wp2_with fail
          go_roundw
          case rel => exact ⟨j + 1, by omega, by go_num, by rw [HS4.out], ⟨by rw [HS1.out, List.map_append, List.length_append]; simpa using HO17.out, by rw [HS2.out, List.map_append, List.length_append]; simpa using HO27.out, by rw [HS3.out, List.map_append, List.length_append]; simpa using HO37.out⟩, A1'.out, A2'.out, A3'.out, HN07.out, HN17.out, HN27.out, HBE7.out⟩
          case measure => simp [intOf]; omega
      · have o1 : decide ((0 : Int) < D) = false := by simpa using hov
        by_cases hli : R ≤ N
        · obtain rfl : S1 = N := by omega
          obtain rfl : V = 0 := by omega
          have hx4 : IntKind.i64.wrap S1 = S1 := IntWalk.i64_in _ (by omega)
          obtain rfl : T = true := by rw [hlit]; simpa using hli
          have hli1 : decide (S1 ≥ R) = true := by simpa using hli
          have hli2 : decide (R ≤ S1) = true := by simpa using hli
          have hle : S1 - R = L := by rw [hleft, if_neg (by omega)]
          have w7 : IntKind.i64.wrap (S1 - R) = L := by rw [hle]; exact IntWalk.i64_in _ (by omega)
          clear hleft hlit hnow hV hD hS1 hob hcap hcap0 bn0 bn1 bp0 bp1 hle
          go_wp2_with fail
          go_quiet (fail)
          go_wp2_with fail
          go_quiet (fail)
          -- the three appends
          clear a0 d0 d1 d2 s0 s1 s4 p0 p1 t1
          generalize hwq : (wr.drewN _).drewN _ = w4
          have hw4 : Below wr.heap.size wr w4 := by rw [← hwq]; exact ((Below.refl _ wr).drewN _).drewN _
          clear hwq
          have HO14 := Lib.hid (HO1.out.kept (Go_grown_of_below hw4) (own_none _))
          have HO24 := Lib.hid (HO2.out.kept (Go_grown_of_below hw4) (own_none _))
          have HO34 := Lib.hid (HO3.out.kept (Go_grown_of_below hw4) (own_none _))
          have HN04 := Lib.hid ((hw4.block Bs lBs).trans HN0.out)
          have HN14 := Lib.hid ((hw4.block Bp lBp).trans HN1.out)
          have HN24 := Lib.hid ((hw4.block Bt lBt).trans HN2.out)
          have HBE4 := Lib.hid (HBE.out.trans (hw4.mono HBE.out.size))
          have l4 := hw4.size
          clear hw4 HO1 HO2 HO3 HN0 HN1 HN2 HBE
          go_wp2_with (at_builtin; refine wpList_app_int rfl _ _ rfl (Bt + 1) u9 (leftsL s (atL c) (atL k) (atL bs) t j) L w4.heap.size rfl (HO14.out.alloc _) rfl (Go.heap_alloc_new w4 _) q1 (by simp; omega) _ rfl ?_)
          intro g1 cap1 w5 hown5 hg5 hat5 hlt5
          have b5 : Below (Bt + 1) (w4.alloc (.cells #[.int .i64 L] 3)) w5 := below_of_grown hg5 (HO14.out.alloc _) (Nat.le_refl _) (by simp; omega)
          have x5 : Below (Bt + 1) w4 w5 := ((Below.refl _ w4).alloc (by omega) _).trans b5
          have HO25 := Lib.hid ((HO24.out.alloc (.cells #[.int .i64 L] 3)).kept hg5 HA1.out.symm.row)
          have HO35 := Lib.hid ((HO34.out.alloc (.cells #[.int .i64 L] 3)).kept hg5 HA2.out.symm.row)
          have A1 := Lib.hid (HA1.out.symm.grown (n := (leftsL s (atL c) (atL k) (atL bs) t j).length + 1) (cap := cap1) hat5 (fun m hm => by have := HO24.out.lt m hm; simp; omega))
          have A2 := Lib.hid (HA2.out.symm.grown (n := (leftsL s (atL c) (atL k) (atL bs) t j).length + 1) (cap := cap1) hat5 (fun m hm => by have := HO34.out.lt m hm; simp; omega))
          have HO15 := Lib.hid hown5
          have X5 := Lib.hid x5
          have l5 := x5.size
          clear hown5 hg5 hat5 hlt5 b5 x5 HO14 HO24 HO34 HA1 HA2
          go_wp2_with (at_builtin; refine wpList_app_int rfl _ _ rfl (Bt + 1) u10 (backsL s (atL c) (atL k) (atL bs) t j) 0 w5.heap.size rfl (HO25.out.alloc _) rfl (Go.heap_alloc_new w5 _) q2 (by simp; omega) _ rfl ?_)
          intro g2 cap2 w6 hown6 hg6 hat6 hlt6
          have b6 : Below (Bt + 1) (w5.alloc (.cells #[.int .i64 0] 3)) w6 := below_of_grown hg6 (HO25.out.alloc _) (Nat.le_refl _) (by simp; omega)
          have x6 : Below (Bt + 1) w4 w6 := (X5.out.alloc (by omega) _).trans b6
          have HO16 := Lib.hid ((HO15.out.alloc (.cells #[.int .i64 0] 3)).kept hg6 A1.out.symm.row)
          have HO36 := Lib.hid ((HO35.out.alloc (.cells #[.int .i64 0] 3)).kept hg6 HA3.out.symm.row)
          have A1' := Lib.hid (A1.out.symm.grown (n := (backsL s (atL c) (atL k) (atL bs) t j).length + 1) (cap := cap2) hat6 (fun m hm => by have := HO15.out.lt m hm; simp; omega))
          have A3 := Lib.hid (HA3.out.symm.grown (n := (backsL s (atL c) (atL k) (atL bs) t j).length + 1) (cap := cap2) hat6 (fun m hm => by have := HO35.out.lt m hm; simp; omega))
          have HO26 := Lib.hid hown6
          have X6 := Lib.hid x6
          have l6 := x6.size
          clear hown6 hg6 hat6 hlt6 b6 x6 HO15 HO25 HO35 HA3 A1 X5
          go_wp2_with (at_builtin; refine wpList_app_bool rfl _ _ rfl (Bt + 1) u11 (litsL s (atL c) (atL k) (atL bs) t j) true w6.heap.size rfl (HO36.out.alloc _) rfl (Go.heap_alloc_new w6 _) q3 (by simp; omega) _ rfl ?_)
          intro g3 cap3 w7 hown7 hg7 hat7 hlt7
          have b7 : Below (Bt + 1) (w6.alloc (.cells #[.bool true] 4)) w7 := below_of_grown hg7 (HO36.out.alloc _) (Nat.le_refl _) (by simp; omega)
          have x7 : Below (Bt + 1) w4 w7 := (X6.out.alloc (by omega) _).trans b7
          have HO17 := Lib.hid ((HO16.out.alloc (.cells #[.bool true] 4)).kept hg7 A2.out.symm.row)
          have HO27 := Lib.hid ((HO26.out.alloc (.cells #[.bool true] 4)).kept hg7 A3.out.symm.row)
          have A2' := Lib.hid (A2.out.symm.grown (n := (litsL s (atL c) (atL k) (atL bs) t j).length + 1) (cap := cap3) hat7 (fun m hm => by have := HO16.out.lt m hm; simp; omega))
          have A3' := Lib.hid (A3.out.symm.grown (n := (litsL s (atL c) (atL k) (atL bs) t j).length + 1) (cap := cap3) hat7 (fun m hm => by have := HO26.out.lt m hm; simp; omega))
          have HO37 := Lib.hid hown7
          have HN07 := Lib.hid ((x7.block Bs (by omega)).trans HN04.out)
          have HN17 := Lib.hid ((x7.block Bp (by omega)).trans HN14.out)
          have HN27 := Lib.hid ((x7.block Bt (by omega)).trans HN24.out)
          have HBE7 := Lib.hid (HBE4.out.trans (x7.mono (by omega)))
          clear hown7 hg7 hat7 hlt7 b7 x7 HO16 HO26 HO36 A2 A3 X6 HN04 HN14 HN24 HBE4
          go_wp2_with fail
          go_roundw
          case rel => exact ⟨j + 1, by omega, by go_num, by rw [HS4.out], ⟨by rw [HS1.out, List.map_append, List.length_append]; simpa using HO17.out, by rw [HS2.out, List.map_append, List.length_append]; simpa using HO27.out, by rw [HS3.out, List.map_append, List.length_append]; simpa using HO37.out⟩, A1'.out, A2'.out, A3'.out, HN07.out, HN17.out, HN27.out, HBE7.out⟩
          case measure => simp [intOf]; omega
        · obtain rfl : S1 = N := by omega
          obtain rfl : V = 0 := by omega
          have hx4 : IntKind.i64.wrap S1 = S1 := IntWalk.i64_in _ (by omega)
          obtain rfl : T = false := by rw [hlit]; simpa using hli
          have hli1 : decide (S1 ≥ R) = false := by simpa using hli
          have hli2 : decide (R ≤ S1) = false := by simpa using hli
          obtain rfl : L = 0 := by rw [hleft, if_pos (by omega)]
          clear hleft hlit hnow hV hD hS1 hob hcap hcap0 bn0 bn1 bp0 bp1
          go_wp2_with fail
          go_quiet (fail)
          go_wp2_with fail
          go_quiet (fail)
          -- the three appends
          clear a0 d0 d1 d2 s0 s1 s4 p0 p1 t1
          generalize hwq : (wr.drewN _).drewN _ = w4
          have hw4 : Below wr.heap.size wr w4 := by rw [← hwq]; exact ((Below.refl _ wr).drewN _).drewN _
          clear hwq
          have HO14 := Lib.hid (HO1.out.kept (Go_grown_of_below hw4) (own_none _))
          have HO24 := Lib.hid (HO2.out.kept (Go_grown_of_below hw4) (own_none _))
          have HO34 := Lib.hid (HO3.out.kept (Go_grown_of_below hw4) (own_none _))
          have HN04 := Lib.hid ((hw4.block Bs lBs).trans HN0.out)
          have HN14 := Lib.hid ((hw4.block Bp lBp).trans HN1.out)
          have HN24 := Lib.hid ((hw4.block Bt lBt).trans HN2.out)
          have HBE4 := Lib.hid (HBE.out.trans (hw4.mono HBE.out.size))
          have l4 := hw4.size
          clear hw4 HO1 HO2 HO3 HN0 HN1 HN2 HBE
          go_wp2_with (at_builtin; refine wpList_app_int rfl _ _ rfl (Bt + 1) u9 (leftsL s (atL c) (atL k) (atL bs) t j) 0 w4.heap.size rfl (HO14.out.alloc _) rfl (Go.heap_alloc_new w4 _) q1 (by simp; omega) _ rfl ?_)
          intro g1 cap1 w5 hown5 hg5 hat5 hlt5
          have b5 : Below (Bt + 1) (w4.alloc (.cells #[.int .i64 0] 3)) w5 := below_of_grown hg5 (HO14.out.alloc _) (Nat.le_refl _) (by simp; omega)
          have x5 : Below (Bt + 1) w4 w5 := ((Below.refl _ w4).alloc (by omega) _).trans b5
          have HO25 := Lib.hid ((HO24.out.alloc (.cells #[.int .i64 0] 3)).kept hg5 HA1.out.symm.row)
          have HO35 := Lib.hid ((HO34.out.alloc (.cells #[.int .i64 0] 3)).kept hg5 HA2.out.symm.row)
          have A1 := Lib.hid (HA1.out.symm.grown (n := (leftsL s (atL c) (atL k) (atL bs) t j).length + 1) (cap := cap1) hat5 (fun m hm => by have := HO24.out.lt m hm; simp; omega))
          have A2 := Lib.hid (HA2.out.symm.grown (n := (leftsL s (atL c) (atL k) (atL bs) t j).length + 1) (cap := cap1) hat5 (fun m hm => by have := HO34.out.lt m hm; simp; omega))
          have HO15 := Lib.hid hown5
          have X5 := Lib.hid x5
          have l5 := x5.size
          clear hown5 hg5 hat5 hlt5 b5 x5 HO14 HO24 HO34 HA1 HA2
          go_wp2_with (at_builtin; refine wpList_app_int rfl _ _ rfl (Bt + 1) u10 (backsL s (atL c) (atL k) (atL bs) t j) 0 w5.heap.size rfl (HO25.out.alloc _) rfl (Go.heap_alloc_new w5 _) q2 (by simp; omega) _ rfl ?_)
          intro g2 cap2 w6 hown6 hg6 hat6 hlt6
          have b6 : Below (Bt + 1) (w5.alloc (.cells #[.int .i64 0] 3)) w6 := below_of_grown hg6 (HO25.out.alloc _) (Nat.le_refl _) (by simp; omega)
          have x6 : Below (Bt + 1) w4 w6 := (X5.out.alloc (by omega) _).trans b6
          have HO16 := Lib.hid ((HO15.out.alloc (.cells #[.int .i64 0] 3)).kept hg6 A1.out.symm.row)
          have HO36 := Lib.hid ((HO35.out.alloc (.cells #[.int .i64 0] 3)).kept hg6 HA3.out.symm.row)
          have A1' := Lib.hid (A1.out.symm.grown (n := (backsL s (atL c) (atL k) (atL bs) t j).length + 1) (cap := cap2) hat6 (fun m hm => by have := HO15.out.lt m hm; simp; omega))
          have A3 := Lib.hid (HA3.out.symm.grown (n := (backsL s (atL c) (atL k) (atL bs) t j).length + 1) (cap := cap2) hat6 (fun m hm => by have := HO35.out.lt m hm; simp; omega))
          have HO26 := Lib.hid hown6
          have X6 := Lib.hid x6
          have l6 := x6.size
          clear hown6 hg6 hat6 hlt6 b6 x6 HO15 HO25 HO35 HA3 A1 X5
          go_wp2_with (at_builtin; refine wpList_app_bool rfl _ _ rfl (Bt + 1) u11 (litsL s (atL c) (atL k) (atL bs) t j) false w6.heap.size rfl (HO36.out.alloc _) rfl (Go.heap_alloc_new w6 _) q3 (by simp; omega) _ rfl ?_)
          intro g3 cap3 w7 hown7 hg7 hat7 hlt7
          have b7 : Below (Bt + 1) (w6.alloc (.cells #[.bool false] 4)) w7 := below_of_grown hg7 (HO36.out.alloc _) (Nat.le_refl _) (by simp; omega)
          have x7 : Below (Bt + 1) w4 w7 := (X6.out.alloc (by omega) _).trans b7
          have HO17 := Lib.hid ((HO16.out.alloc (.cells #[.bool false] 4)).kept hg7 A2.out.symm.row)
          have HO27 := Lib.hid ((HO26.out.alloc (.cells #[.bool false] 4)).kept hg7 A3.out.symm.row)
          have A2' := Lib.hid (A2.out.symm.grown (n := (litsL s (atL c) (atL k) (atL bs) t j).length + 1) (cap := cap3) hat7 (fun m hm => by have := HO16.out.lt m hm; simp; omega))
          have A3' := Lib.hid (A3.out.symm.grown (n := (litsL s (atL c) (atL k) (atL bs) t j).length + 1) (cap := cap3) hat7 (fun m hm => by have := HO26.out.lt m hm; simp; omega))
          have HO37 := Lib.hid hown7
          have HN07 := Lib.hid ((x7.block Bs (by omega)).trans HN04.out)
          have HN17 := Lib.hid ((x7.block Bp (by omega)).trans HN14.out)
          have HN27 := Lib.hid ((x7.block Bt (by omega)).trans HN24.out)
          have HBE7 := Lib.hid (HBE4.out.trans (x7.mono (by omega)))
          clear hown7 hg7 hat7 hlt7 b7 x7 HO16 HO26 HO36 A2 A3 X6 HN04 HN14 HN24 HBE4
          go_wp2_with fail
          go_roundw
          case rel => exact ⟨j + 1, by omega, by go_num, by rw [HS4.out], ⟨by rw [HS1.out, List.map_append, List.length_append]; simpa using HO17.out, by rw [HS2.out, List.map_append, List.length_append]; simpa using HO27.out, by rw [HS3.out, List.map_append, List.length_append]; simpa using HO37.out⟩, A1'.out, A2'.out, A3'.out, HN07.out, HN17.out, HN27.out, HBE7.out⟩
          case measure => simp [intOf]; omega
    · have hlt' : decide ((j : Int) < (s.ns.length : Int)) = false := by simpa using hlt
      obtain rfl : j = s.ns.length := by omega
      have hfin : RPlayPost s c k t bs w (.returned (.tuple #[u9, u10, u11])) wr := ⟨HBE.out, _, _, _, rfl, HO1.out.lower (by omega), HO2.out.lower (by omega), HO3.out.lower (by omega)⟩
      have HF := Lib.hid hfin
      clear hfin
      go_wp2_with fail
      exact bodyPost_ret (v := .tuple #[u9, u10, u11]) (by simp [results, Try.results26, go_sem]) rfl HF.out
end Go.Proofs.Ytefhdcecbmgljaa

/-
  night: the oil after a night, whatever a wick burns.
-/
import Derived.Test.YtefhdcecbmgljaaPlay
import Derived.Test.YtefhdcecbmgljaaLevL
set_option linter.all false
namespace Go.Proofs.Ytefhdcecbmgljaa
open Go.RowKit Go.WalkArith

def NiRel (s : St) (i : Nat) (c k oil : Int) (w : World) (Bp Bn Bm : Nat) (o1 o2 o3 : Obj) (v b : Value) (wr : World) : Prop :=
  ∃ j : Nat, j ≤ burnsN s i ∧ b = .int .i64 ((ntAt s i).lo + (j : Int)) ∧ wr.ownsRow (Bm + 1) 3 1 v (nightL s i c k oil j).length ((nightL s i c k oil j).map (Value.int .i64)) ∧ wr.heap[Bp]? = some o1 ∧ wr.heap[Bn]? = some o2 ∧ wr.heap[Bm]? = some o3 ∧ Below w.heap.size w wr

set_option maxRecDepth 100000 in
set_option maxHeartbeats 8000000 in
theorem night_any (s : St) (A : Option Addr) (cp : Nat) (Ac Ak : Option Addr) (cc ck : Nat) (c k : List Int) (i : Nat) (oil : Int) (w : World) (hok : planL s c k = 0) (hi : i < s.ns.length) (ho : 0 ≤ oil ∧ oil ≤ 400) (hA : NtsAt w A s.ns) (hc : IntsAt w (.slice Ac c.length cc) c) (hk : IntsAt w (.slice Ak k.length ck) k) :
    Calls Try.prog 103 #[.agg #[.int .i64 s.cap, .int .i64 s.can, .int .i64 s.sl, .int .i64 s.sh, .slice A s.ns.length cp], .agg #[.slice Ac c.length cc, .slice Ak k.length ck], .int .i64 i, .int .i64 oil] w fun e w' => ∃ v, e = .returned v ∧ w'.ownsRow w.heap.size 3 1 v (nightL s i (atL c i) (atL k i) oil (burnsN s i)).length ((nightL s i (atL c i) (atL k i) oil (burnsN s i)).map (Value.int .i64)) ∧ Below w.heap.size w w' := by
  obtain ⟨h, hcl, hkl, hpl⟩ := planL_zero.1 hok
  have HO := Lib.hid h
  have HPL := Lib.hid hpl
  have HCL := Lib.hid hcl
  have HKL := Lib.hid hkl
  have hlen := h.len
  have hpn := hpl.nn h hi
  have hnt := h.nt i hi
  have hcap := h.c1
  have hnow := nowO_bd h (c := atL c i) (o := oil) (by omega) ho.1
  obtain ⟨bA, oA, rfl, a0, a1, a2, a3, a4⟩ := hA.at hi
  rw [← ntAt_at hi] at a0 a1 a2 a3 a4
  obtain ⟨bc, oc, rfl, d0⟩ := hc.at (k := i) (by omega)
  obtain ⟨bk, ok, rfl, d1⟩ := hk.at (k := i) (by omega)
  have i1 : (0 : Int) ≤ (i : Int) := by omega
  have i2 : (i : Int) < (s.ns.length : Int) := by omega
  have i3 : (i : Int) < (c.length : Int) := by omega
  have i4 : (i : Int) < (k.length : Int) := by omega
  have lb0 := World.block_lt_of_cell? w _ d0
  have lb1 := World.block_lt_of_cell? w _ d1
  obtain ⟨X, hX⟩ : ∃ X, atL c i = X := ⟨_, rfl⟩
  obtain ⟨Y, hY⟩ : ∃ Y, atL k i = Y := ⟨_, rfl⟩
  rw [hX] at d0 hpn hnow ⊢
  rw [hY] at d1 hpn ⊢
  clear hok h hcl hkl hpl hA hc hk hX hY
  have hfil := Lib.hid (fun W => filled_any (some ⟨bA, oA, none⟩) s.ns.length cp s oil X W (And.intro HO.out.c0 HO.out.c1) (And.intro HO.out.k0 HO.out.k1) ho (by omega))
  have hburn := Lib.hid (fun W b (hb : 0 ≤ b ∧ b ≤ 10) => burned_any s HO.out hi X Y b oil _ W (by omega) hb rfl (by omega))
  have hmost := Lib.hid (fun W => most_any (ntAt s i) W)
  have hfew := Lib.hid (fun W => fewest_any (ntAt s i) W)
  obtain ⟨N, hN⟩ : ∃ N, nowO s X oil = N := ⟨_, rfl⟩
  rw [hN] at hfil hburn hnow
  obtain ⟨⟨nh, na, nb, nlo, nhi⟩, hNT⟩ : ∃ N, ntAt s i = N := ⟨_, rfl⟩
  have HNT := Lib.hid hNT
  rw [hNT] at a0 a1 a2 a3 a4 hburn hmost hfew hnt
  dsimp only at a0 a1 a2 a3 a4 hburn hmost hfew hnt
  clear hN hNT
  have lbA := World.block_lt_of_cell? w _ a0
  have HD0 := Lib.hid d1
  have hB0 : Below w.heap.size w (((((w.alloc (.cells #[.int .i64 s.cap, .int .i64 s.can, .int .i64 s.sl, .int .i64 s.sh, .slice (some ⟨bA, oA, none⟩) s.ns.length cp] 39)).alloc (.cells #[.slice (some ⟨bc, oc, none⟩) c.length cc, .slice (some ⟨bk, ok, none⟩) k.length ck] 44)).alloc (.cells #[.int .i64 nh, .int .i64 na, .int .i64 nb, .int .i64 nlo, .int .i64 nhi] 105)).alloc (.cells #[.func (.func 117) #[] #[]] 166)).alloc (.cells #[.func (.func 118) #[] #[]] 166)) := (((((Below.refl _ _).alloc (Nat.le_refl _) _).alloc (by simp) _).alloc (by simp; omega) _).alloc (by simp; omega) _).alloc (by simp; omega) _
  have hn0 : (((((w.alloc (.cells #[.int .i64 s.cap, .int .i64 s.can, .int .i64 s.sl, .int .i64 s.sh, .slice (some ⟨bA, oA, none⟩) s.ns.length cp] 39)).alloc (.cells #[.slice (some ⟨bc, oc, none⟩) c.length cc, .slice (some ⟨bk, ok, none⟩) k.length ck] 44)).alloc (.cells #[.int .i64 nh, .int .i64 na, .int .i64 nb, .int .i64 nlo, .int .i64 nhi] 105)).alloc (.cells #[.func (.func 117) #[] #[]] 166)).alloc (.cells #[.func (.func 118) #[] #[]] 166)).heap[w.heap.size]? = some (.cells #[.int .i64 s.cap, .int .i64 s.can, .int .i64 s.sl, .int .i64 s.sh, .slice (some ⟨bA, oA, none⟩) s.ns.length cp] 39 (0, 0)) := (Below.heap_alloc _ _ _ (by simp <;> omega)).trans ((Below.heap_alloc _ _ _ (by simp <;> omega)).trans ((Below.heap_alloc _ _ _ (by simp <;> omega)).trans ((Below.heap_alloc _ _ _ (by simp <;> omega)).trans (heap_new_at _ _ _ rfl))))
  have hn1 : (((((w.alloc (.cells #[.int .i64 s.cap, .int .i64 s.can, .int .i64 s.sl, .int .i64 s.sh, .slice (some ⟨bA, oA, none⟩) s.ns.length cp] 39)).alloc (.cells #[.slice (some ⟨bc, oc, none⟩) c.length cc, .slice (some ⟨bk, ok, none⟩) k.length ck] 44)).alloc (.cells #[.int .i64 nh, .int .i64 na, .int .i64 nb, .int .i64 nlo, .int .i64 nhi] 105)).alloc (.cells #[.func (.func 117) #[] #[]] 166)).alloc (.cells #[.func (.func 118) #[] #[]] 166)).heap[w.heap.size + 1]? = some (.cells #[.slice (some ⟨bc, oc, none⟩) c.length cc, .slice (some ⟨bk, ok, none⟩) k.length ck] 44 (0, 0)) := (Below.heap_alloc _ _ _ (by simp <;> omega)).trans ((Below.heap_alloc _ _ _ (by simp <;> omega)).trans ((Below.heap_alloc _ _ _ (by simp <;> omega)).trans (heap_new_at _ _ _ (by simp))))
  have hn2 : (((((w.alloc (.cells #[.int .i64 s.cap, .int .i64 s.can, .int .i64 s.sl, .int .i64 s.sh, .slice (some ⟨bA, oA, none⟩) s.ns.length cp] 39)).alloc (.cells #[.slice (some ⟨bc, oc, none⟩) c.length cc, .slice (some ⟨bk, ok, none⟩) k.length ck] 44)).alloc (.cells #[.int .i64 nh, .int .i64 na, .int .i64 nb, .int .i64 nlo, .int .i64 nhi] 105)).alloc (.cells #[.func (.func 117) #[] #[]] 166)).alloc (.cells #[.func (.func 118) #[] #[]] 166)).heap[w.heap.size + 1 + 1]? = some (.cells #[.int .i64 nh, .int .i64 na, .int .i64 nb, .int .i64 nlo, .int .i64 nhi] 105 (0, 0)) := (Below.heap_alloc _ _ _ (by simp <;> omega)).trans ((Below.heap_alloc _ _ _ (by simp <;> omega)).trans (heap_new_at _ _ _ (by simp)))
  have hn3 : (((((w.alloc (.cells #[.int .i64 s.cap, .int .i64 s.can, .int .i64 s.sl, .int .i64 s.sh, .slice (some ⟨bA, oA, none⟩) s.ns.length cp] 39)).alloc (.cells #[.slice (some ⟨bc, oc, none⟩) c.length cc, .slice (some ⟨bk, ok, none⟩) k.length ck] 44)).alloc (.cells #[.int .i64 nh, .int .i64 na, .int .i64 nb, .int .i64 nlo, .int .i64 nhi] 105)).alloc (.cells #[.func (.func 117) #[] #[]] 166)).alloc (.cells #[.func (.func 118) #[] #[]] 166)).heap[w.heap.size + 1 + 1 + 1]? = some (.cells #[.func (.func 117) #[] #[]] 166 (0, 0)) := (Below.heap_alloc _ _ _ (by simp <;> omega)).trans (heap_new_at _ _ _ (by simp))
  have hn4 : (((((w.alloc (.cells #[.int .i64 s.cap, .int .i64 s.can, .int .i64 s.sl, .int .i64 s.sh, .slice (some ⟨bA, oA, none⟩) s.ns.length cp] 39)).alloc (.cells #[.slice (some ⟨bc, oc, none⟩) c.length cc, .slice (some ⟨bk, ok, none⟩) k.length ck] 44)).alloc (.cells #[.int .i64 nh, .int .i64 na, .int .i64 nb, .int .i64 nlo, .int .i64 nhi] 105)).alloc (.cells #[.func (.func 117) #[] #[]] 166)).alloc (.cells #[.func (.func 118) #[] #[]] 166)).heap[w.heap.size + 1 + 1 + 1 + 1]? = some (.cells #[.func (.func 118) #[] #[]] 166 (0, 0)) := heap_new_at _ _ _ (by simp)
  have HB1 := Lib.hid hB0
  have NBs1 := Lib.hid hn0
  have NBp1 := Lib.hid hn1
  have NBn1 := Lib.hid hn2
  have NBf1 := Lib.hid hn3
  have NBm1 := Lib.hid hn4
  clear hB0 hn0 hn1 hn2 hn3 hn4
  go_enter Try.func103, Try.ntmps103
  go_wp2_with fail
  generalize (((((w.alloc (.cells #[.int .i64 s.cap, .int .i64 s.can, .int .i64 s.sl, .int .i64 s.sh, .slice (some ⟨bA, oA, none⟩) s.ns.length cp] 39)).alloc (.cells #[.slice (some ⟨bc, oc, none⟩) c.length cc, .slice (some ⟨bk, ok, none⟩) k.length ck] 44)).alloc (.cells #[.int .i64 nh, .int .i64 na, .int .i64 nb, .int .i64 nlo, .int .i64 nhi] 105)).alloc (.cells #[.func (.func 117) #[] #[]] 166)).alloc (.cells #[.func (.func 118) #[] #[]] 166)) = w1 at HB1 NBs1 NBp1 NBn1 NBf1 NBm1 ⊢
  obtain ⟨Bm, hBm⟩ : ∃ Bm, w.heap.size + 1 + 1 + 1 + 1 = Bm := ⟨_, rfl⟩
  obtain ⟨Bf, hBf⟩ : ∃ Bf, w.heap.size + 1 + 1 + 1 = Bf := ⟨_, rfl⟩
  obtain ⟨Bn, hBn⟩ : ∃ Bn, w.heap.size + 1 + 1 = Bn := ⟨_, rfl⟩
  obtain ⟨Bp, hBp⟩ : ∃ Bp, w.heap.size + 1 = Bp := ⟨_, rfl⟩
  obtain ⟨Bs, hBs⟩ : ∃ Bs, w.heap.size = Bs := ⟨_, rfl⟩
  have oBm : w.heap.size ≤ Bm := by omega
  have oBsBm : Bs < Bm := by omega
  have oBpBm : Bp < Bm := by omega
  have oBnBm : Bn < Bm := by omega
  have oBfBm : Bf < Bm := by omega
  have oBf : w.heap.size ≤ Bf := by omega
  have oBsBf : Bs < Bf := by omega
  have oBpBf : Bp < Bf := by omega
  have oBnBf : Bn < Bf := by omega
  have oBn : w.heap.size ≤ Bn := by omega
  have oBsBn : Bs < Bn := by omega
  have oBpBn : Bp < Bn := by omega
  have oBp : w.heap.size ≤ Bp := by omega
  have oBsBp : Bs < Bp := by omega
  have oBs : w.heap.size ≤ Bs := by omega
  rw [hBm] at NBm1 ⊢
  rw [hBf] at NBf1 ⊢
  rw [hBn] at NBn1 ⊢
  rw [hBp] at NBp1 ⊢
  rw [hBs] at NBs1 ⊢
  clear hBs hBp hBn hBf hBm
  have cBs0_1 : w1.cell? ⟨Bs, 0, none⟩ = some (.int .i64 s.cap) := by simp [World.cell?, NBs1.out]
  have cBs1_1 : w1.cell? ⟨Bs, 1, none⟩ = some (.int .i64 s.can) := by simp [World.cell?, NBs1.out]
  have cBs2_1 : w1.cell? ⟨Bs, 2, none⟩ = some (.int .i64 s.sl) := by simp [World.cell?, NBs1.out]
  have cBs3_1 : w1.cell? ⟨Bs, 3, none⟩ = some (.int .i64 s.sh) := by simp [World.cell?, NBs1.out]
  have cBs4_1 : w1.cell? ⟨Bs, 4, none⟩ = some (.slice (some ⟨bA, oA, none⟩) s.ns.length cp) := by simp [World.cell?, NBs1.out]
  have cBp0_1 : w1.cell? ⟨Bp, 0, none⟩ = some (.slice (some ⟨bc, oc, none⟩) c.length cc) := by simp [World.cell?, NBp1.out]
  have cBp1_1 : w1.cell? ⟨Bp, 1, none⟩ = some (.slice (some ⟨bk, ok, none⟩) k.length ck) := by simp [World.cell?, NBp1.out]
  have cBn0_1 : w1.cell? ⟨Bn, 0, none⟩ = some (.int .i64 nh) := by simp [World.cell?, NBn1.out]
  have cBn1_1 : w1.cell? ⟨Bn, 1, none⟩ = some (.int .i64 na) := by simp [World.cell?, NBn1.out]
  have cBn2_1 : w1.cell? ⟨Bn, 2, none⟩ = some (.int .i64 nb) := by simp [World.cell?, NBn1.out]
  have cBn3_1 : w1.cell? ⟨Bn, 3, none⟩ = some (.int .i64 nlo) := by simp [World.cell?, NBn1.out]
  have cBn4_1 : w1.cell? ⟨Bn, 4, none⟩ = some (.int .i64 nhi) := by simp [World.cell?, NBn1.out]
  have cBf0_1 : w1.cell? ⟨Bf, 0, none⟩ = some (.func (.func 117) #[] #[]) := by simp [World.cell?, NBf1.out]
  have cBm0_1 : w1.cell? ⟨Bm, 0, none⟩ = some (.func (.func 118) #[] #[]) := by simp [World.cell?, NBm1.out]
  replace d0 : w1.cell? ⟨bc, oc + i, none⟩ = some (.int .i64 X) := (HB1.out.cell (p := ⟨bc, oc + i, none⟩) lb0).trans d0
  replace d1 : w1.cell? ⟨bk, ok + i, none⟩ = some (.int .i64 Y) := (HB1.out.cell (p := ⟨bk, ok + i, none⟩) lb1).trans d1
  clear a0 a1 a2 a3 a4
  have hbm0 : Bm < w1.heap.size := (Array.getElem?_eq_some_iff.1 NBm1.out).1
  go_region_held3 (fun Z => Z.cell? ⟨Bs, 0, none⟩ = some (.int .i64 s.cap) ∧ Z.cell? ⟨Bs, 1, none⟩ = some (.int .i64 s.can) ∧ Z.cell? ⟨Bs, 2, none⟩ = some (.int .i64 s.sl) ∧ Z.cell? ⟨Bs, 3, none⟩ = some (.int .i64 s.sh) ∧ Z.cell? ⟨Bs, 4, none⟩ = some (.slice (some ⟨bA, oA, none⟩) s.ns.length cp) ∧ Z.cell? ⟨Bp, 0, none⟩ = some (.slice (some ⟨bc, oc, none⟩) c.length cc) ∧ Z.cell? ⟨bc, oc + i, none⟩ = some (.int .i64 X))
    (first | go_keep | exact ⟨cell_later hb2 cBs0_1, cell_later hb2 cBs1_1, cell_later hb2 cBs2_1, cell_later hb2 cBs3_1, cell_later hb2 cBs4_1, cell_later hb2 cBp0_1, cell_later hb2 d0⟩)
    ((go_at_call 65; refine (hfil.out _).mono ?_; rintro e w2 ⟨rfl, hb2⟩))
  have hbz : Below w1.heap.size w1 w2 := (Below.refl _ w1).drew.trans hb2
  replace d1 := cell_later hbz d1
  clear hfil hb2
  have HB2 := Lib.hid ((HB1.out).trans (hbz.mono (HB1.out).size))
  have NBs2 := Lib.hid ((hbz.block Bs (Array.getElem?_eq_some_iff.1 NBs1.out).1).trans NBs1.out)
  have NBp2 := Lib.hid ((hbz.block Bp (Array.getElem?_eq_some_iff.1 NBp1.out).1).trans NBp1.out)
  have NBn2 := Lib.hid ((hbz.block Bn (Array.getElem?_eq_some_iff.1 NBn1.out).1).trans NBn1.out)
  have NBf2 := Lib.hid ((hbz.block Bf (Array.getElem?_eq_some_iff.1 NBf1.out).1).trans NBf1.out)
  have NBm2 := Lib.hid ((hbz.block Bm (Array.getElem?_eq_some_iff.1 NBm1.out).1).trans NBm1.out)
  clear HB1 NBs1 NBp1 NBn1 NBf1 NBm1 cBs0_1 cBs1_1 cBs2_1 cBs3_1 cBs4_1 cBp0_1 cBp1_1 cBn0_1 cBn1_1 cBn2_1 cBn3_1 cBn4_1 cBf0_1 cBm0_1  hbz d0
  have cBs0_2 : w2.cell? ⟨Bs, 0, none⟩ = some (.int .i64 s.cap) := by simp [World.cell?, NBs2.out]
  have cBs1_2 : w2.cell? ⟨Bs, 1, none⟩ = some (.int .i64 s.can) := by simp [World.cell?, NBs2.out]
  have cBs2_2 : w2.cell? ⟨Bs, 2, none⟩ = some (.int .i64 s.sl) := by simp [World.cell?, NBs2.out]
  have cBs3_2 : w2.cell? ⟨Bs, 3, none⟩ = some (.int .i64 s.sh) := by simp [World.cell?, NBs2.out]
  have cBs4_2 : w2.cell? ⟨Bs, 4, none⟩ = some (.slice (some ⟨bA, oA, none⟩) s.ns.length cp) := by simp [World.cell?, NBs2.out]
  have cBp0_2 : w2.cell? ⟨Bp, 0, none⟩ = some (.slice (some ⟨bc, oc, none⟩) c.length cc) := by simp [World.cell?, NBp2.out]
  have cBp1_2 : w2.cell? ⟨Bp, 1, none⟩ = some (.slice (some ⟨bk, ok, none⟩) k.length ck) := by simp [World.cell?, NBp2.out]
  have cBn0_2 : w2.cell? ⟨Bn, 0, none⟩ = some (.int .i64 nh) := by simp [World.cell?, NBn2.out]
  have cBn1_2 : w2.cell? ⟨Bn, 1, none⟩ = some (.int .i64 na) := by simp [World.cell?, NBn2.out]
  have cBn2_2 : w2.cell? ⟨Bn, 2, none⟩ = some (.int .i64 nb) := by simp [World.cell?, NBn2.out]
  have cBn3_2 : w2.cell? ⟨Bn, 3, none⟩ = some (.int .i64 nlo) := by simp [World.cell?, NBn2.out]
  have cBn4_2 : w2.cell? ⟨Bn, 4, none⟩ = some (.int .i64 nhi) := by simp [World.cell?, NBn2.out]
  have cBf0_2 : w2.cell? ⟨Bf, 0, none⟩ = some (.func (.func 117) #[] #[]) := by simp [World.cell?, NBf2.out]
  have cBm0_2 : w2.cell? ⟨Bm, 0, none⟩ = some (.func (.func 118) #[] #[]) := by simp [World.cell?, NBm2.out]
  go_wp2_with fail
  refine (hfew.out _).mono ?_
  rintro e w3 ⟨rfl, hb⟩
  replace d1 := cell_later hb d1
  have HB3 := Lib.hid ((HB2.out).trans (hb.mono (HB2.out).size))
  have NBs3 := Lib.hid ((hb.block Bs (Array.getElem?_eq_some_iff.1 NBs2.out).1).trans NBs2.out)
  have NBp3 := Lib.hid ((hb.block Bp (Array.getElem?_eq_some_iff.1 NBp2.out).1).trans NBp2.out)
  have NBn3 := Lib.hid ((hb.block Bn (Array.getElem?_eq_some_iff.1 NBn2.out).1).trans NBn2.out)
  have NBf3 := Lib.hid ((hb.block Bf (Array.getElem?_eq_some_iff.1 NBf2.out).1).trans NBf2.out)
  have NBm3 := Lib.hid ((hb.block Bm (Array.getElem?_eq_some_iff.1 NBm2.out).1).trans NBm2.out)
  clear HB2 NBs2 NBp2 NBn2 NBf2 NBm2 cBs0_2 cBs1_2 cBs2_2 cBs3_2 cBs4_2 cBp0_2 cBp1_2 cBn0_2 cBn1_2 cBn2_2 cBn3_2 cBn4_2 cBf0_2 cBm0_2  hb hfew
  have cBs0_3 : w3.cell? ⟨Bs, 0, none⟩ = some (.int .i64 s.cap) := by simp [World.cell?, NBs3.out]
  have cBs1_3 : w3.cell? ⟨Bs, 1, none⟩ = some (.int .i64 s.can) := by simp [World.cell?, NBs3.out]
  have cBs2_3 : w3.cell? ⟨Bs, 2, none⟩ = some (.int .i64 s.sl) := by simp [World.cell?, NBs3.out]
  have cBs3_3 : w3.cell? ⟨Bs, 3, none⟩ = some (.int .i64 s.sh) := by simp [World.cell?, NBs3.out]
  have cBs4_3 : w3.cell? ⟨Bs, 4, none⟩ = some (.slice (some ⟨bA, oA, none⟩) s.ns.length cp) := by simp [World.cell?, NBs3.out]
  have cBp0_3 : w3.cell? ⟨Bp, 0, none⟩ = some (.slice (some ⟨bc, oc, none⟩) c.length cc) := by simp [World.cell?, NBp3.out]
  have cBp1_3 : w3.cell? ⟨Bp, 1, none⟩ = some (.slice (some ⟨bk, ok, none⟩) k.length ck) := by simp [World.cell?, NBp3.out]
  have cBn0_3 : w3.cell? ⟨Bn, 0, none⟩ = some (.int .i64 nh) := by simp [World.cell?, NBn3.out]
  have cBn1_3 : w3.cell? ⟨Bn, 1, none⟩ = some (.int .i64 na) := by simp [World.cell?, NBn3.out]
  have cBn2_3 : w3.cell? ⟨Bn, 2, none⟩ = some (.int .i64 nb) := by simp [World.cell?, NBn3.out]
  have cBn3_3 : w3.cell? ⟨Bn, 3, none⟩ = some (.int .i64 nlo) := by simp [World.cell?, NBn3.out]
  have cBn4_3 : w3.cell? ⟨Bn, 4, none⟩ = some (.int .i64 nhi) := by simp [World.cell?, NBn3.out]
  have cBf0_3 : w3.cell? ⟨Bf, 0, none⟩ = some (.func (.func 117) #[] #[]) := by simp [World.cell?, NBf3.out]
  have cBm0_3 : w3.cell? ⟨Bm, 0, none⟩ = some (.func (.func 118) #[] #[]) := by simp [World.cell?, NBm3.out]
  have HD1 := Lib.hid d1
  have lm3 : Bm < w3.heap.size := (Array.getElem?_eq_some_iff.1 NBm3.out).1
  have hbl3 : bk < w3.heap.size := World.block_lt_of_cell? w3 _ d1
  have hbs : burnsN s i = (nhi - nlo + 1).toNat := by unfold burnsN; rw [HNT.out]
  have hnlo : (ntAt s i).lo = nlo := by rw [HNT.out]
  obtain ⟨M, hM⟩ : ∃ M, burnsN s i = M := ⟨_, rfl⟩
  have hM1 : (M : Int) = nhi - nlo + 1 := by omega
  have HM := Lib.hid hM
  have HLO := Lib.hid hnlo
  clear d1 hbs hM hnlo
  go_wp2_with fail
  go_loopw [8, 14] (NiRel s i X Y oil w Bp Bn Bm (.cells #[.slice (some ⟨bc, oc, none⟩) c.length cc, .slice (some ⟨bk, ok, none⟩) k.length ck] 44 (0, 0)) (.cells #[.int .i64 nh, .int .i64 na, .int .i64 nb, .int .i64 nlo, .int .i64 nhi] 105 (0, 0)) (.cells #[.func (.func 118) #[] #[]] 166 (0, 0))) (fun _ b _ => (nhi + 1 - intOf b).toNat)
  case atStart => exact ⟨0, by omega, by rw [HLO.out]; simp, World.ownsRow_nil _ _ _ _, NBp3.out, NBn3.out, NBm3.out, HB3.out⟩
  case round =>
    clear HB3 NBs3 NBp3 NBn3 NBf3 NBm3 cBs0_3 cBs1_3 cBs2_3 cBs3_3 cBs4_3 cBp0_3 cBp1_3 cBn0_3 cBn1_3 cBn2_3 cBn3_3 cBn4_3 cBf0_3 cBm0_3 HD1 lm3 hbl3
    obtain ⟨j, hj, rfl, hown, hn1, hn2, hn3, hbe⟩ := hrel
    rw [HLO.out]
    rw [HM.out] at hj
    have HOWN := Lib.hid hown
    have HN1 := Lib.hid hn1
    have HN2 := Lib.hid hn2
    have HN3 := Lib.hid hn3
    have HBE := Lib.hid hbe
    have p1 : wr.cell? ⟨Bp, 1, none⟩ = some (.slice (some ⟨bk, ok, none⟩) k.length ck) := by simp [World.cell?, hn1]
    have n0 : wr.cell? ⟨Bn, 0, none⟩ = some (.int .i64 nh) := by simp [World.cell?, hn2]
    have n1 : wr.cell? ⟨Bn, 1, none⟩ = some (.int .i64 na) := by simp [World.cell?, hn2]
    have n2 : wr.cell? ⟨Bn, 2, none⟩ = some (.int .i64 nb) := by simp [World.cell?, hn2]
    have n3 : wr.cell? ⟨Bn, 3, none⟩ = some (.int .i64 nlo) := by simp [World.cell?, hn2]
    have n4 : wr.cell? ⟨Bn, 4, none⟩ = some (.int .i64 nhi) := by simp [World.cell?, hn2]
    have m0 : wr.cell? ⟨Bm, 0, none⟩ = some (.func (.func 118) #[] #[]) := by simp [World.cell?, hn3]
    have d1 : wr.cell? ⟨bk, ok + i, none⟩ = some (.int .i64 Y) := (hbe.cell (p := ⟨bk, ok + i, none⟩) lb1).trans HD0.out
    have lBp := (Array.getElem?_eq_some_iff.1 hn1).1
    have lBn := (Array.getElem?_eq_some_iff.1 hn2).1
    have lBm := (Array.getElem?_eq_some_iff.1 hn3).1
    clear hown hn1 hn2 hn3 hbe
    go_wp2_with fail
    refine (hmost.out _).mono ?_
    rintro e w4 ⟨rfl, hb⟩
    replace p1 := cell_later hb p1
    replace n0 := cell_later hb n0
    replace n1 := cell_later hb n1
    replace n2 := cell_later hb n2
    replace n3 := cell_later hb n3
    replace n4 := cell_later hb n4
    replace d1 := cell_later hb d1
    have HOWN4 := Lib.hid (HOWN.out.kept (Go_grown_of_below hb) (own_none _))
    have HN14 := Lib.hid ((hb.block _ lBp).trans HN1.out)
    have HN24 := Lib.hid ((hb.block _ lBn).trans HN2.out)
    have HN34 := Lib.hid ((hb.block _ lBm).trans HN3.out)
    have HBE4 := Lib.hid (HBE.out.trans (hb.mono HBE.out.size))
    have l4 := hb.size
    clear m0 hb HOWN HN1 HN2 HN3 HBE
    by_cases hlt : j < M
    · have hlt' : decide (nlo + (j : Int) ≤ nhi) = true := decide_eq_true (by omega)
      obtain ⟨bb, hbb⟩ : ∃ bb, nlo + (j : Int) = bb := ⟨_, rfl⟩
      have hsu := nightL_succ s i X Y oil j
      have hle := nightL_len s i X Y oil j
      rw [HLO.out, hbb] at hsu
      have hbu := hburn.out w4.drew bb (by omega)
      obtain ⟨L, hL⟩ : ∃ L, leftO s i X Y bb oil = L := ⟨_, rfl⟩
      obtain ⟨T, hT⟩ : ∃ T, litO s i X Y bb oil = T := ⟨_, rfl⟩
      rw [hL, hT] at hbu
      rw [hL] at hsu
      have q1 : (nightL s i X Y oil j).length ≤ 1000000 := by omega
      have hb1 : nlo + (j : Int) + 1 = bb + 1 := by omega
      have hbr : 0 ≤ bb ∧ bb ≤ 10 := by omega
      have hbq : bb + 1 = nlo + ((j + 1 : Nat) : Int) := by omega
      have HBU := Lib.hid hbu
      have HSU := Lib.hid hsu
      have HBQ := Lib.hid hbq
      clear hbu hsu hL hT hb1 hbq hle
      go_wp2_with fail
      go_region_held3 (fun Q => Q.cell? ⟨Bp, 1, none⟩ = some (.slice (some ⟨bk, ok, none⟩) k.length ck) ∧ Q.cell? ⟨bk, ok + i, none⟩ = some (.int .i64 Y) ∧ Q.cell? ⟨Bn, 0, none⟩ = some (.int .i64 nh) ∧ Q.cell? ⟨Bn, 1, none⟩ = some (.int .i64 na) ∧ Q.cell? ⟨Bn, 2, none⟩ = some (.int .i64 nb) ∧ Q.cell? ⟨Bn, 3, none⟩ = some (.int .i64 nlo) ∧ Q.cell? ⟨Bn, 4, none⟩ = some (.int .i64 nhi))
        (first | go_keep | exact ⟨cell_later hb5 p1, cell_later hb5 d1, cell_later hb5 n0, cell_later hb5 n1, cell_later hb5 n2, cell_later hb5 n3, cell_later hb5 n4⟩)
        ((go_at_call 66; refine HBU.out.mono ?_; rintro e w5 ⟨rfl, hb5⟩))
      have hb5' : Below w4.heap.size w4 w5 := (Below.refl _ w4).drew.trans hb5
      have HOWN5 := Lib.hid (HOWN4.out.kept (Go_grown_of_below hb5') (own_none _))
      have HN15 := Lib.hid ((hb5'.block _ (by omega)).trans HN14.out)
      have HN25 := Lib.hid ((hb5'.block _ (by omega)).trans HN24.out)
      have HN35 := Lib.hid ((hb5'.block _ (by omega)).trans HN34.out)
      have HBE5 := Lib.hid (HBE4.out.trans (hb5'.mono HBE4.out.size))
      have l5 := hb5'.size
      clear hb5 hb5' HOWN4 HN14 HN24 HN34 HBE4 HBU p1 n0 n1 n2 n3 n4 d1
      go_wp2_with (at_builtin; refine wpList_app_int rfl _ _ rfl (Bm + 1) u8 (nightL s i X Y oil j) L w5.heap.size rfl (HOWN5.out.alloc _) rfl (Go.heap_alloc_new w5 _) q1 (by simp; omega) _ rfl ?_)
      intro g cap w6 hown6 hg6 hat6 hlt6
      have x6 : Below (Bm + 1) w5 w6 := ((Below.refl _ w5).alloc (by omega) _).trans (below_of_grown hg6 (HOWN5.out.alloc _) (Nat.le_refl _) (by simp; omega))
      have HOWN6 := Lib.hid hown6
      have HN16 := Lib.hid ((x6.block _ (by omega)).trans HN15.out)
      have HN26 := Lib.hid ((x6.block _ (by omega)).trans HN25.out)
      have HN36 := Lib.hid ((x6.block _ (by omega)).trans HN35.out)
      have HBE6 := Lib.hid (HBE5.out.trans (x6.mono (by omega)))
      clear hown6 hg6 hat6 hlt6 x6 HOWN5 HN15 HN25 HN35 HBE5
      go_wp2_with fail
      go_roundw
      case rel => exact ⟨j + 1, by rw [HM.out]; omega, by rw [HLO.out, ← HBQ.out], by rw [HSU.out, List.map_append, List.length_append]; simpa using HOWN6.out, HN16.out, HN26.out, HN36.out, HBE6.out⟩
      case measure => simp [intOf]; omega
    · have hlt' : decide (nlo + (j : Int) ≤ nhi) = false := decide_eq_false (by omega)
      obtain rfl : j = M := by omega
      go_wp2_with fail
      go_ret
      exact ⟨_, rfl, by rw [HM.out]; exact HOWN4.out.lower (by omega), HBE4.out⟩
end Go.Proofs.Ytefhdcecbmgljaa

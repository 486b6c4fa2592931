/-
  least, dark, Dark, ProvePlan.
-/
import Derived.Test.YtefhdcecbmgljaaRows3
set_option linter.all false
namespace Go.Proofs.Ytefhdcecbmgljaa
open Go.RowKit Go.WalkArith

set_option maxRecDepth 100000 in
set_option maxHeartbeats 2000000 in
theorem least_any (s : St) (A : Option Addr) (cp i : Nat) (oil c k : Int) (w : World) (h : StOk s) (hi : i < s.ns.length) (ho : 0 ≤ oil ∧ oil ≤ 400) (hc : 0 ≤ c ∧ c ≤ 2) (hk : 0 ≤ k ∧ k ≤ 4) (hA : NtsAt w A s.ns) :
    Calls Try.prog 112 #[.agg #[.int .i64 s.cap, .int .i64 s.can, .int .i64 s.sl, .int .i64 s.sh, .slice A s.ns.length cp], .int .i64 i, .int .i64 oil, .int .i64 c, .int .i64 k] w fun e w' => e = .returned (.tuple #[.int .i64 (leftO s i c k (ntAt s i).hi oil), .bool (litO s i c k (ntAt s i).hi oil)]) ∧ Below w.heap.size w w' := by
  have HO := Lib.hid h
  have hnow := nowO_bd h hc.1 ho.1
  have hnt := h.nt i hi
  have hcap := And.intro h.c0 h.c1
  have hcan := And.intro h.k0 h.k1
  have hlen := h.len
  have HA := Lib.hid hA
  clear hA h
  have hbel : Below w.heap.size w ((w.alloc (.cells #[.int .i64 s.cap, .int .i64 s.can, .int .i64 s.sl, .int .i64 s.sh, .slice A s.ns.length cp] 39)).alloc (.cells #[.func (.func 118) #[] #[]] 166)) := ((Below.refl _ _).alloc (Nat.le_refl _) _).alloc (by simp) _
  have HB := Lib.hid hbel
  have HA1 := Lib.hid (HA.out.keep hbel (Nat.le_refl _))
  clear hbel
  obtain ⟨b, o, rfl, a0, a1, a2, a3, a4⟩ := HA1.out.at hi
  rw [← ntAt_at hi] at a0 a1 a2 a3 a4
  have i1 : (0 : Int) ≤ (i : Int) := by omega
  have i2 : (i : Int) < (s.ns.length : Int) := by omega
  obtain ⟨nh, hnh⟩ : ∃ x, (ntAt s i).h = x := ⟨_, rfl⟩
  obtain ⟨na, hna⟩ : ∃ x, (ntAt s i).a = x := ⟨_, rfl⟩
  obtain ⟨nb, hnb⟩ : ∃ x, (ntAt s i).b = x := ⟨_, rfl⟩
  obtain ⟨nlo, hnlo⟩ : ∃ x, (ntAt s i).lo = x := ⟨_, rfl⟩
  obtain ⟨nhi, hnhi⟩ : ∃ x, (ntAt s i).hi = x := ⟨_, rfl⟩
  have hmost := Lib.hid (fun W => most_any (ntAt s i) W)
  have hburn := Lib.hid (fun W => burned_any s HO.out hi c k (ntAt s i).hi oil _ W hk (by omega) rfl (by omega))
  rw [hnh, hna, hnb, hnlo, hnhi] at hmost hburn
  rw [hnh] at a0
  rw [hna] at a1
  rw [hnb] at a2
  rw [hnlo] at a3
  rw [hnhi] at a4 ⊢
  obtain ⟨N, hN⟩ : ∃ N, nowO s c oil = N := ⟨_, rfl⟩
  rw [hN] at hburn hnow
  have hfil := Lib.hid (fun W => filled_any (some ⟨b, o, none⟩) s.ns.length cp s oil c W hcap hcan ho hc)
  rw [hN] at hfil
  obtain ⟨L, hL⟩ : ∃ L, leftO s i c k nhi oil = L := ⟨_, rfl⟩
  obtain ⟨T, hT⟩ : ∃ T, litO s i c k nhi oil = T := ⟨_, rfl⟩
  rw [hL, hT] at hburn ⊢
  clear hnh hna hnb hnlo hnhi hN hnt hL hT
  go_enter Try.func112, Try.ntmps112
  go_wp2_with fail
  refine (hfil.out _).mono ?_
  rintro e w1 ⟨rfl, hb1⟩
  have hW : Below w.heap.size w (((w.alloc (.cells #[.int .i64 s.cap, .int .i64 s.can, .int .i64 s.sl, .int .i64 s.sh, .slice (some ⟨b, o, none⟩) s.ns.length cp] 39)).alloc (.cells #[.func (.func 118) #[] #[]] 166)).alloc (.cells #[.int .i64 nh, .int .i64 na, .int .i64 nb, .int .i64 nlo, .int .i64 nhi] 105)) := HB.out.alloc (by simp; omega) _
  have q1 : (((w.alloc (.cells #[.int .i64 s.cap, .int .i64 s.can, .int .i64 s.sl, .int .i64 s.sh, .slice (some ⟨b, o, none⟩) s.ns.length cp] 39)).alloc (.cells #[.func (.func 118) #[] #[]] 166)).alloc (.cells #[.int .i64 nh, .int .i64 na, .int .i64 nb, .int .i64 nlo, .int .i64 nhi] 105)).heap[w.heap.size + 1]? = some (.cells #[.func (.func 118) #[] #[]] 166 (0, 0)) := (Below.heap_alloc _ _ _ (by simp)).trans (heap_new_at _ _ _ (by simp))
  have q2 : (((w.alloc (.cells #[.int .i64 s.cap, .int .i64 s.can, .int .i64 s.sl, .int .i64 s.sh, .slice (some ⟨b, o, none⟩) s.ns.length cp] 39)).alloc (.cells #[.func (.func 118) #[] #[]] 166)).alloc (.cells #[.int .i64 nh, .int .i64 na, .int .i64 nb, .int .i64 nlo, .int .i64 nhi] 105)).heap[w.heap.size + 1 + 1]? = some (.cells #[.int .i64 nh, .int .i64 na, .int .i64 nb, .int .i64 nlo, .int .i64 nhi] 105 (0, 0)) := heap_new_at _ _ _ (by simp)
  have r1 := (hb1.block _ (by simp)).trans q1
  have r2 := (hb1.block _ (by simp)).trans q2
  have HB1 := Lib.hid (hW.trans (hb1.mono hW.size))
  clear q1 q2 hb1 hW HB
  have s0 : w1.cell? ⟨w.heap.size + 1, 0, none⟩ = some (.func (.func 118) #[] #[]) := by simp [World.cell?, r1]
  have s1 : w1.cell? ⟨w.heap.size + 1 + 1, 0, none⟩ = some (.int .i64 nh) := by simp [World.cell?, r2]
  have s2 : w1.cell? ⟨w.heap.size + 1 + 1, 1, none⟩ = some (.int .i64 na) := by simp [World.cell?, r2]
  have s3 : w1.cell? ⟨w.heap.size + 1 + 1, 2, none⟩ = some (.int .i64 nb) := by simp [World.cell?, r2]
  have s4 : w1.cell? ⟨w.heap.size + 1 + 1, 3, none⟩ = some (.int .i64 nlo) := by simp [World.cell?, r2]
  have s5 : w1.cell? ⟨w.heap.size + 1 + 1, 4, none⟩ = some (.int .i64 nhi) := by simp [World.cell?, r2]
  clear r1 r2
  go_wp2_with fail
  go_region_held3 (fun Y => Y.cell? ⟨w.heap.size + 1, 0, none⟩ = some (.func (.func 118) #[] #[]) ∧ Y.cell? ⟨w.heap.size + 1 + 1, 0, none⟩ = some (.int .i64 nh) ∧ Y.cell? ⟨w.heap.size + 1 + 1, 1, none⟩ = some (.int .i64 na) ∧ Y.cell? ⟨w.heap.size + 1 + 1, 2, none⟩ = some (.int .i64 nb) ∧ Y.cell? ⟨w.heap.size + 1 + 1, 3, none⟩ = some (.int .i64 nlo) ∧ Y.cell? ⟨w.heap.size + 1 + 1, 4, none⟩ = some (.int .i64 nhi))
    (first | go_keep | exact ⟨cell_later hb2 s0, cell_later hb2 s1, cell_later hb2 s2, cell_later hb2 s3, cell_later hb2 s4, cell_later hb2 s5⟩ | exact ⟨cell_later hb3 (cell_later hb2 s0), cell_later hb3 (cell_later hb2 s1), cell_later hb3 (cell_later hb2 s2), cell_later hb3 (cell_later hb2 s3), cell_later hb3 (cell_later hb2 s4), cell_later hb3 (cell_later hb2 s5)⟩)
    (first | (go_at_call 118; refine (hmost.out _).mono ?_; rintro e w2 ⟨rfl, hb2⟩) | (go_at_call 66; refine (hburn.out _).mono ?_; rintro e w3 ⟨rfl, hb3⟩))
  have hb4 := HB1.out.drew.trans (hb2.mono HB1.out.drew.size)
  have hb5 := hb4.trans (hb3.mono hb4.size)
  go_wp2_with fail
  go_ret2
  exact ⟨rfl, hb5⟩

theorem wOil_succ (s : St) (c k : Nat → Int) (j : Nat) : wOil s c k (j + 1) = leftO s j (c j) (k j) (ntAt s j).hi (wOil s c k j) := rfl

def DRel (s : St) (c k : List Int) (w : World) (Bs Bp : Nat) (o o2 : Obj) (v oil i : Value) (wr : World) : Prop :=
  ∃ j : Nat, j ≤ s.ns.length ∧ i = .int .i64 j ∧ oil = .int .i64 (wOil s (atL c) (atL k) j) ∧ wr.ownsRow (Bp + 1) 3 1 v (darkTo s (atL c) (atL k) j).length ((darkTo s (atL c) (atL k) j).map (Value.int .i64)) ∧ wr.heap[Bs]? = some o ∧ wr.heap[Bp]? = some o2 ∧ Below w.heap.size w wr
theorem darkTo_len (s : St) (c k : Nat → Int) (j : Nat) : (darkTo s c k j).length ≤ j := by
  unfold darkTo
  rw [List.length_map]
  exact Nat.le_trans (List.length_filter_le _ _) (by simp)

set_option maxRecDepth 100000 in
set_option maxHeartbeats 4000000 in
theorem dark_any (s : St) (A : Option Addr) (cp : Nat) (Ac Ak : Option Addr) (cc ck : Nat) (c k : List Int) (w : World) (hok : planL s c k = 0) (hA : NtsAt w A s.ns) (hc : IntsAt w (.slice Ac c.length cc) c) (hk : IntsAt w (.slice Ak k.length ck) k) :
    Calls Try.prog 92 #[.agg #[.int .i64 s.cap, .int .i64 s.can, .int .i64 s.sl, .int .i64 s.sh, .slice A s.ns.length cp], .agg #[.slice Ac c.length cc, .slice Ak k.length ck]] w fun e w' => ∃ v, e = .returned v ∧ w'.ownsRow w.heap.size 3 1 v (darkL s (atL c) (atL k)).length ((darkL s (atL c) (atL k)).map (Value.int .i64)) ∧ Below w.heap.size w w' := by
  obtain ⟨h, hcl, hkl, hpl⟩ := planL_zero.1 hok
  have HO := Lib.hid h
  have HPL := Lib.hid hpl
  have HCL := Lib.hid hcl
  have HKL := Lib.hid hkl
  have hlen := h.len
  have HA := Lib.hid hA
  have HC := Lib.hid hc
  have HK := Lib.hid hk
  clear hok h hcl hkl hpl hA hc hk
  have hB0 : Below w.heap.size w ((w.alloc (.cells #[.int .i64 s.cap, .int .i64 s.can, .int .i64 s.sl, .int .i64 s.sh, .slice A s.ns.length cp] 39)).alloc (.cells #[.slice Ac c.length cc, .slice Ak k.length ck] 44)) := ((Below.refl _ _).alloc (Nat.le_refl _) _).alloc (by simp) _
  have hn0 : ((w.alloc (.cells #[.int .i64 s.cap, .int .i64 s.can, .int .i64 s.sl, .int .i64 s.sh, .slice A s.ns.length cp] 39)).alloc (.cells #[.slice Ac c.length cc, .slice Ak k.length ck] 44)).heap[w.heap.size]? = some (.cells #[.int .i64 s.cap, .int .i64 s.can, .int .i64 s.sl, .int .i64 s.sh, .slice A s.ns.length cp] 39 (0, 0)) := (Below.heap_alloc _ _ _ (by simp <;> omega)).trans (heap_new_at _ _ _ rfl)
  have hn1 : ((w.alloc (.cells #[.int .i64 s.cap, .int .i64 s.can, .int .i64 s.sl, .int .i64 s.sh, .slice A s.ns.length cp] 39)).alloc (.cells #[.slice Ac c.length cc, .slice Ak k.length ck] 44)).heap[w.heap.size + 1]? = some (.cells #[.slice Ac c.length cc, .slice Ak k.length ck] 44 (0, 0)) := heap_new_at _ _ _ (by simp)
  have HB1 := Lib.hid hB0
  have NBs1 := Lib.hid hn0
  have NBp1 := Lib.hid hn1
  clear hB0 hn0 hn1
  go_enter Try.func92, Try.ntmps92
  go_wp2_with fail
  generalize ((w.alloc (.cells #[.int .i64 s.cap, .int .i64 s.can, .int .i64 s.sl, .int .i64 s.sh, .slice A s.ns.length cp] 39)).alloc (.cells #[.slice Ac c.length cc, .slice Ak k.length ck] 44)) = w1 at HB1 NBs1 NBp1 ⊢
  obtain ⟨Bp, hBp⟩ : ∃ Bp, w.heap.size + 1 = Bp := ⟨_, rfl⟩
  obtain ⟨Bs, hBs⟩ : ∃ Bs, w.heap.size = Bs := ⟨_, rfl⟩
  have oBp : w.heap.size ≤ Bp := by omega
  have oBsBp : Bs < Bp := by omega
  have oBs : w.heap.size ≤ Bs := by omega
  rw [hBp] at NBp1 ⊢
  rw [hBs] at NBs1 ⊢
  clear hBs hBp
  have cBs0_1 : w1.cell? ⟨Bs, 0, none⟩ = some (.int .i64 s.cap) := by simp [World.cell?, NBs1.out]
  have cBs1_1 : w1.cell? ⟨Bs, 1, none⟩ = some (.int .i64 s.can) := by simp [World.cell?, NBs1.out]
  have cBs2_1 : w1.cell? ⟨Bs, 2, none⟩ = some (.int .i64 s.sl) := by simp [World.cell?, NBs1.out]
  have cBs3_1 : w1.cell? ⟨Bs, 3, none⟩ = some (.int .i64 s.sh) := by simp [World.cell?, NBs1.out]
  have cBs4_1 : w1.cell? ⟨Bs, 4, none⟩ = some (.slice A s.ns.length cp) := by simp [World.cell?, NBs1.out]
  have cBp0_1 : w1.cell? ⟨Bp, 0, none⟩ = some (.slice Ac c.length cc) := by simp [World.cell?, NBp1.out]
  have cBp1_1 : w1.cell? ⟨Bp, 1, none⟩ = some (.slice Ak k.length ck) := by simp [World.cell?, NBp1.out]
  have hbz : Bp + 1 ≤ w1.heap.size := (Array.getElem?_eq_some_iff.1 NBp1.out).1
  go_loopw [4, 5, 15] (DRel s c k w Bs Bp (.cells #[.int .i64 s.cap, .int .i64 s.can, .int .i64 s.sl, .int .i64 s.sh, .slice A s.ns.length cp] 39 (0, 0)) (.cells #[.slice Ac c.length cc, .slice Ak k.length ck] 44 (0, 0))) (fun _ _ i _ => s.ns.length - (intOf i).toNat)
  case atStart => exact ⟨0, by omega, rfl, rfl, World.ownsRow_nil _ _ _ _, NBs1.out, NBp1.out, HB1.out⟩
  case round =>
    clear cBs0_1 cBs1_1 cBs2_1 cBs3_1 cBs4_1 cBp0_1 cBp1_1 HB1 NBs1 NBp1 hbz
    obtain ⟨j, hj, rfl, rfl, hown, hn0, hn1, hbe⟩ := hrel
    have HBE := Lib.hid hbe
    have HN0 := Lib.hid hn0
    have HN1 := Lib.hid hn1
    have HOWN := Lib.hid hown
    have lBs := (Array.getElem?_eq_some_iff.1 hn0).1
    have lBp := (Array.getElem?_eq_some_iff.1 hn1).1
    clear hbe hn0 hn1 hown
    by_cases hlt : j < s.ns.length
    · have hlt' : decide ((j : Int) < (s.ns.length : Int)) = true := by simpa using hlt
      obtain ⟨b, o, rfl, d0⟩ := (HC.out.keep HBE.out (Nat.le_refl _)).at (k := j) (by rw [HCL.out]; exact hlt)
      obtain ⟨b', o', rfl, d1⟩ := (HK.out.keep HBE.out (Nat.le_refl _)).at (k := j) (by rw [HKL.out]; exact hlt)
      have hpn := HPL.out.nn HO.out hlt
      have hob := oilF_bd HO.out HPL.out (worst_tr HO.out) (i := j) (by omega)
      have hcap := HO.out.c1
      have hls := least_any s A cp j (wOil s (atL c) (atL k) j) (atL c j) (atL k j) wr.drew HO.out hlt (by unfold wOil; omega) (by omega) (by omega) (HA.out.keep HBE.out.drew (Nat.le_refl _))
      have hsu := darkTo_succ s (atL c) (atL k) j
      have hdl := darkTo_len s (atL c) (atL k) j
      have hwu := (wOil_succ s (atL c) (atL k) j).symm
      unfold wLit at hsu
      obtain ⟨X, hX⟩ : ∃ X, atL c j = X := ⟨_, rfl⟩
      obtain ⟨Y, hY⟩ : ∃ Y, atL k j = Y := ⟨_, rfl⟩
      obtain ⟨O, hO⟩ : ∃ O, wOil s (atL c) (atL k) j = O := ⟨_, rfl⟩
      rw [hX, hY, hO] at hls hsu hwu
      rw [hO]
      rw [hX] at d0
      rw [hY] at d1
      obtain ⟨L, hL⟩ : ∃ L, leftO s j X Y (ntAt s j).hi O = L := ⟨_, rfl⟩
      obtain ⟨T, hT⟩ : ∃ T, litO s j X Y (ntAt s j).hi O = T := ⟨_, rfl⟩
      rw [hL, hT] at hls
      rw [hT] at hsu
      rw [hL] at hwu
      have HLS := Lib.hid hls
      have HSU := Lib.hid hsu
      have HWU := Lib.hid hwu
      have i1 : (0 : Int) ≤ (j : Int) := by omega
      have i2 : (j : Int) < (c.length : Int) := by rw [HCL.out]; omega
      have i3 : (j : Int) < (k.length : Int) := by rw [HKL.out]; omega
      have s0 : wr.cell? ⟨Bs, 0, none⟩ = some (.int .i64 s.cap) := by simp [World.cell?, HN0.out]
      have s1 : wr.cell? ⟨Bs, 1, none⟩ = some (.int .i64 s.can) := by simp [World.cell?, HN0.out]
      have s2 : wr.cell? ⟨Bs, 2, none⟩ = some (.int .i64 s.sl) := by simp [World.cell?, HN0.out]
      have s3 : wr.cell? ⟨Bs, 3, none⟩ = some (.int .i64 s.sh) := by simp [World.cell?, HN0.out]
      have s4 : wr.cell? ⟨Bs, 4, none⟩ = some (.slice A s.ns.length cp) := by simp [World.cell?, HN0.out]
      have p0 : wr.cell? ⟨Bp, 0, none⟩ = some (.slice (some ⟨b, o, none⟩) c.length cc) := by simp [World.cell?, HN1.out]
      have p1 : wr.cell? ⟨Bp, 1, none⟩ = some (.slice (some ⟨b', o', none⟩) k.length ck) := by simp [World.cell?, HN1.out]
      clear hls hsu hwu hX hY hO hL hT hpn hob
      go_wp2_with fail
      go_region_held3 (fun Z => Z.cell? ⟨Bs, 0, none⟩ = some (.int .i64 s.cap) ∧ Z.cell? ⟨Bs, 1, none⟩ = some (.int .i64 s.can) ∧ Z.cell? ⟨Bs, 2, none⟩ = some (.int .i64 s.sl) ∧ Z.cell? ⟨Bs, 3, none⟩ = some (.int .i64 s.sh) ∧ Z.cell? ⟨Bs, 4, none⟩ = some (.slice A s.ns.length cp) ∧ Z.cell? ⟨Bp, 0, none⟩ = some (.slice (some ⟨b, o, none⟩) c.length cc) ∧ Z.cell? ⟨Bp, 1, none⟩ = some (.slice (some ⟨b', o', none⟩) k.length ck) ∧ Z.cell? ⟨b, o + j, none⟩ = some (.int .i64 X) ∧ Z.cell? ⟨b', o' + j, none⟩ = some (.int .i64 Y))
        (first | go_keep | exact ⟨cell_later hb2 s0, cell_later hb2 s1, cell_later hb2 s2, cell_later hb2 s3, cell_later hb2 s4, cell_later hb2 p0, cell_later hb2 p1, cell_later hb2 d0, cell_later hb2 d1⟩)
        ((go_at_call 112; refine HLS.out.mono ?_; rintro e w2 ⟨rfl, hb2⟩))
      clear HLS s0 s1 s2 s3 s4 p0 p1 d0 d1
      have hb3 : Below wr.heap.size wr w2 := (Below.refl _ wr).drew.trans hb2
      have HOW2 := Lib.hid (HOWN.out.kept (Go_grown_of_below hb3) (own_none _))
      have HN2 := Lib.hid ((hb3.block Bs lBs).trans HN0.out)
      have HN3 := Lib.hid ((hb3.block Bp lBp).trans HN1.out)
      have HBE2 := Lib.hid (HBE.out.trans (hb3.mono HBE.out.size))
      have lw2 := hb3.size
      clear hb2 hb3 HOWN HN0 HN1 HBE
      cases T with
      | true =>
        have HSU2 := Lib.hid (HSU.out.trans (if_pos rfl))
        go_wp2_with fail
        go_roundw
        case rel => exact ⟨j + 1, by omega, by go_num, by rw [HWU.out], by rw [HSU2.out]; exact HOW2.out, HN2.out, HN3.out, HBE2.out⟩
        case measure => simp [intOf]; omega
      | false =>
        have HSU2 := Lib.hid (HSU.out.trans (if_neg (by simp)))
        go_wp2_with (at_builtin; refine wpList_app_int rfl _ _ rfl (Bp + 1) _ (darkTo s (atL c) (atL k) j) (j : Int) w2.heap.size rfl (HOW2.out.alloc _) rfl (Go.heap_alloc_new w2 _) (by omega) (by simp; omega) _ rfl ?_)
        intro g cap w3 hown3 hgrow hat hlt3
        have hne : ∀ m, m < Bp + 1 → some m ≠ u4.ownBlock := fun m hm e => by have := HOW2.out.lt m e.symm; omega
        have n2 := (hgrow.block Bs (by simp; omega) (hne _ (by omega))).trans ((Below.heap_alloc _ _ _ (by omega)).trans HN2.out)
        have n3 := (hgrow.block Bp (by simp; omega) (hne _ (by omega))).trans ((Below.heap_alloc _ _ _ (by omega)).trans HN3.out)
        have hbe3 : Below w.heap.size w w3 := (HBE2.out.alloc (by omega) _).trans (below_of_grown hgrow (HOW2.out.alloc _) (by omega) (by simp; omega))
        have HN4 := Lib.hid n2
        have HN5 := Lib.hid n3
        have HBE3 := Lib.hid hbe3
        have HOW3 := Lib.hid hown3
        clear n2 n3 hbe3 hown3 hgrow hat hne
        go_wp2_with fail
        go_roundw
        case rel => exact ⟨j + 1, by omega, by go_num, by rw [HWU.out], by rw [HSU2.out, List.map_append, List.length_append]; exact HOW3.out, HN4.out, HN5.out, HBE3.out⟩
        case measure => simp [intOf]; omega
    · have hlt' : decide ((j : Int) < (s.ns.length : Int)) = false := by simpa using hlt
      obtain rfl : j = s.ns.length := by omega
      go_wp2_with fail
      go_ret
      exact ⟨_, rfl, HOWN.out.lower (by omega), HBE.out⟩
end Go.Proofs.Ytefhdcecbmgljaa

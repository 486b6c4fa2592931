/-
  AngleEnds: the walk.
-/
import Derived.Test.YtkloaeaepjoijaaReadA
import Derived.Test.YtkloaeaepjoijaaClosedL
set_option linter.all false
namespace Go.Proofs.Ytkloaeaepjoijaa
open Go.RowKit Go.WalkArith

def EnRel (w2 : World) (i : Value) (wr : World) : Prop :=
  ∃ k : Nat, k ≤ 4 ∧ i = .int .i64 k ∧ Below w2.heap.size w2 wr
theorem net_n (A : Option Addr) (n cap : Nat) (T C : Int) (l : List Ang) (w : World) (hl : l.length = n) (hA : AngsAt w A l) (hn : n ≤ 1000000) :
    Calls Try.prog 22 #[.agg #[.slice A n cap, .int .i64 T, .int .i64 C]] w fun e w' => ∃ A' cap', e = .returned (.agg #[.slice A' n cap', .int .i64 T, .int .i64 C]) ∧ AngsAt w' A' l ∧ Below w.heap.size w w' := by
  subst hl
  refine (net_any A cap T C l w hA hn).mono ?_
  rintro e w' ⟨A', c', rfl, h1, _, h2⟩
  exact ⟨A', c', rfl, h1, h2⟩
theorem tmod_idx {n : Nat} {wh : Int} (h0 : 0 ≤ wh) (hn : 0 < n) : ∃ i : Nat, i < n ∧ wh.tmod (n : Int) = i := by
  have h1 : wh.tmod (n : Int) = wh % (n : Int) := Int.tmod_eq_emod_of_nonneg h0
  have h2 := Int.emod_nonneg wh (by omega : (n : Int) ≠ 0)
  have h3 := Int.emod_lt_of_pos wh (by omega : 0 < (n : Int))
  rw [h1]
  generalize wh % (n : Int) = r at h2 h3 ⊢
  exact ⟨r.toNat, by omega, by omega⟩

set_option maxRecDepth 100000 in
set_option maxHeartbeats 8000000 in
theorem ends_walk (A0 : Option Addr) (cap0 : Nat) (ws : List Int) (er wh : Int) (w : World) (hW : WordsAt w (.slice A0 ws.length cap0) ws) (hn : ws.length ≤ 9223372036854775807) (he0 : 0 ≤ er) (he1 : er ≤ 255) (hw0 : 0 ≤ wh) (hw1 : wh ≤ 255) :
    Calls Try.prog 9 #[.slice A0 ws.length cap0, .int .u8 er, .int .u8 wh] w fun e w' => e = .returned (.bool true) ∧ Below w.heap.size w w' := by
  have HW := Lib.hid hW
  clear hW
  obtain ⟨e, hE⟩ : ∃ e, er % 6 = e := ⟨_, rfl⟩
  have e0 : 0 ≤ e ∧ e ≤ 5 := by omega
  have hcl := Lib.hid (closed_any (.slice A0 ws.length cap0) ws e w HW.out hn e0)
  go_enter Try.func9, Try.ntmps9
  go_wp2_with fail
  refine hcl.out.mono ?_
  rintro e' w1 ⟨hb, A, cap, T, C, vt, l, xs, rfl, hA, hI, ⟨gA, rfl⟩, hlen, hcl2⟩
  obtain ⟨Av, cv, rfl, _⟩ := id hI
  have HB1 := Lib.hid hb
  have FA1 := Lib.hid hA
  clear hb hA hI hlen hcl
  rcases hcl2 with ⟨h13, hf3⟩ | ⟨hok, htb⟩
  · have HF := Lib.hid hf3
    have hl13 : l.length ≤ 1000000 := by omega
    clear hf3 h13
    go_wp2_with fail
    have hbx : Below w1.heap.size w1 (w1.alloc (.cells #[.slice (some ⟨gA, 0, none⟩) l.length cap, .int .i64 T, .int .i64 C] 24)) := (Below.refl _ _).alloc (Nat.le_refl _) _
    have hnx := Go.heap_alloc_new w1 (.cells #[.slice (some ⟨gA, 0, none⟩) l.length cap, .int .i64 T, .int .i64 C] 24)
    obtain ⟨Bi, hBi⟩ : ∃ x, w1.heap.size = x := ⟨_, rfl⟩
    have oBi : w.heap.size ≤ Bi := by have := HB1.out.size; omega
    generalize hwx : w1.alloc (.cells #[.slice (some ⟨gA, 0, none⟩) l.length cap, .int .i64 T, .int .i64 C] 24) = w2 at hbx hnx ⊢
    have HB2 := Lib.hid ((HB1.out).trans (hbx.mono (HB1.out).size))
    have FA2 := Lib.hid ((FA1.out).keep hbx (Nat.le_refl _))
    clear HB1 FA1 hbx 
    rw [hBi] at hnx ⊢
    have NBi2 := Lib.hid hnx
    clear hnx hwx hBi
    have cBi0_2 : w2.cell? ⟨Bi, 0, none⟩ = some (.slice (some ⟨gA, 0, none⟩) l.length cap) := by simp [World.cell?, NBi2.out]
    have cBi1_2 : w2.cell? ⟨Bi, 1, none⟩ = some (.int .i64 T) := by simp [World.cell?, NBi2.out]
    have cBi2_2 : w2.cell? ⟨Bi, 2, none⟩ = some (.int .i64 C) := by simp [World.cell?, NBi2.out]
    have hfa := Lib.hid (lawFault_any (some ⟨gA, 0, none⟩) l.length cap T C l w2 hl13 rfl FA2.out)
    rw [HF.out] at hfa
    go_wp2_with fail
    refine (hfa.out).mono ?_
    rintro e w3 ⟨rfl, hb⟩
    have HB3 := Lib.hid ((HB2.out).trans (hb.mono (HB2.out).size))
    have NBi3 := Lib.hid ((hb.block Bi (Array.getElem?_eq_some_iff.1 NBi2.out).1).trans NBi2.out)
    have FA3 := Lib.hid ((FA2.out).keep hb (Nat.le_refl _))
    clear HB2 NBi2 cBi0_2 cBi1_2 cBi2_2 FA2 hb hfa
    obtain ⟨cBi0_3, cBi1_3, cBi2_3⟩ := blk3 NBi3.out
    go_wp2_with fail
    refine (awake_any _).mono ?_
    rintro e w4 ⟨rfl, hb⟩
    have HB4 := Lib.hid ((HB3.out).trans (hb.mono (HB3.out).size))
    have NBi4 := Lib.hid ((hb.block Bi (Array.getElem?_eq_some_iff.1 NBi3.out).1).trans NBi3.out)
    have FA4 := Lib.hid ((FA3.out).keep hb (Nat.le_refl _))
    clear HB3 NBi3 cBi0_3 cBi1_3 cBi2_3 FA3 hb 
    obtain ⟨cBi0_4, cBi1_4, cBi2_4⟩ := blk3 NBi4.out
    go_wp2_with fail
    go_ret
    exact ⟨rfl, HB4.out⟩
  · have HO := Lib.hid hok
    have hn12 := hok.len
    have hpos := hok.pos
    have hft := faultL_zero.2 hok
    have hsu := truth_sure htb
    have HFT := Lib.hid hft
    have HSU := Lib.hid hsu
    clear hok htb hft hsu
    go_wp2_with fail
    have hbx : Below w1.heap.size w1 (w1.alloc (.cells #[.slice (some ⟨gA, 0, none⟩) l.length cap, .int .i64 T, .int .i64 C] 24)) := (Below.refl _ _).alloc (Nat.le_refl _) _
    have hnx := Go.heap_alloc_new w1 (.cells #[.slice (some ⟨gA, 0, none⟩) l.length cap, .int .i64 T, .int .i64 C] 24)
    obtain ⟨Bi, hBi⟩ : ∃ x, w1.heap.size = x := ⟨_, rfl⟩
    have oBi : w.heap.size ≤ Bi := by have := HB1.out.size; omega
    generalize hwx : w1.alloc (.cells #[.slice (some ⟨gA, 0, none⟩) l.length cap, .int .i64 T, .int .i64 C] 24) = w2 at hbx hnx ⊢
    have HB2 := Lib.hid ((HB1.out).trans (hbx.mono (HB1.out).size))
    have FA2 := Lib.hid ((FA1.out).keep hbx (Nat.le_refl _))
    clear HB1 FA1 hbx 
    rw [hBi] at hnx ⊢
    have NBi2 := Lib.hid hnx
    clear hnx hwx hBi
    have cBi0_2 : w2.cell? ⟨Bi, 0, none⟩ = some (.slice (some ⟨gA, 0, none⟩) l.length cap) := by simp [World.cell?, NBi2.out]
    have cBi1_2 : w2.cell? ⟨Bi, 1, none⟩ = some (.int .i64 T) := by simp [World.cell?, NBi2.out]
    have cBi2_2 : w2.cell? ⟨Bi, 2, none⟩ = some (.int .i64 C) := by simp [World.cell?, NBi2.out]
    have hfa := Lib.hid (lawFault_any (some ⟨gA, 0, none⟩) l.length cap T C l w2 (by omega) rfl FA2.out)
    rw [HFT.out] at hfa
    go_wp2_with fail
    refine (hfa.out).mono ?_
    rintro e w3 ⟨rfl, hb⟩
    have HB3 := Lib.hid ((HB2.out).trans (hb.mono (HB2.out).size))
    have NBi3 := Lib.hid ((hb.block Bi (Array.getElem?_eq_some_iff.1 NBi2.out).1).trans NBi2.out)
    have FA3 := Lib.hid ((FA2.out).keep hb (Nat.le_refl _))
    clear HB2 NBi2 cBi0_2 cBi1_2 cBi2_2 FA2 hb hfa
    obtain ⟨cBi0_3, cBi1_3, cBi2_3⟩ := blk3 NBi3.out
    go_wp2_with fail
    refine (net_any _ cap T C l _ FA3.out (by omega)).mono ?_
    rintro e w4 ⟨Aq1, cq1, rfl, hq, hqn, hb⟩
    have HB4 := Lib.hid ((HB3.out).trans (hb.mono (HB3.out).size))
    have NBi4 := Lib.hid ((hb.block Bi (Array.getElem?_eq_some_iff.1 NBi3.out).1).trans NBi3.out)
    have FA4 := Lib.hid ((FA3.out).keep hb (Nat.le_refl _))
    have FQ14 := Lib.hid hq
    clear HB3 NBi3 cBi0_3 cBi1_3 cBi2_3 FA3 hq hb hqn
    obtain ⟨cBi0_4, cBi1_4, cBi2_4⟩ := blk3 NBi4.out
    have hbv := Lib.hid (bounds_yes (cap := cq1) (by omega) rfl FQ14.out HSU.out)
    clear FQ14
    go_wp2_with fail
    refine (hbv.out).mono ?_
    rintro e w5 ⟨bb, bo, bcp, bl, bh, rfl, hcells, hbe, hb⟩; have HBE := Lib.hid hbe; have hRg : RangesAt w5 (.slice (some ⟨bb, bo, none⟩) l.length bcp) l.length bl bh := ⟨_, _, rfl, .inr ⟨_, _, rfl, hcells⟩⟩
    have HB5 := Lib.hid ((HB4.out).trans (hb.mono (HB4.out).size))
    have NBi5 := Lib.hid ((hb.block Bi (Array.getElem?_eq_some_iff.1 NBi4.out).1).trans NBi4.out)
    have FA5 := Lib.hid ((FA4.out).keep hb (Nat.le_refl _))
    have FG5 := Lib.hid hRg
    clear HB4 NBi4 cBi0_4 cBi1_4 cBi2_4 FA4 hRg hb hbv hcells hbe
    obtain ⟨cBi0_5, cBi1_5, cBi2_5⟩ := blk3 NBi5.out
    obtain ⟨i, hi, hwi⟩ := tmod_idx hw0 hpos
    have hl0 : (l.length : Int) ≠ 0 := by omega
    have i1 : (0 : Int) ≤ (i : Int) := by omega
    have i2 : (i : Int) < (l.length : Int) := by omega
    have ANG : ∀ X, Below w5.heap.size w5 X → AngAt X gA (i * 4) l[i] := fun X hX => by
      rcases FA5.out.keep hX (Nat.le_refl _) with h | ⟨b, o, he, hc⟩
      · rw [h] at hpos; simp at hpos
      · cases he
        have := hc i hi
        rwa [Nat.zero_add] at this
    have RNG : ∀ X, Below w5.heap.size w5 X → X.cell? ⟨bb, bo + i * 2, none⟩ = some (.int .i64 (bl i)) ∧ X.cell? ⟨bb, bo + i * 2 + 1, none⟩ = some (.int .i64 (bh i)) := fun X hX => by
      obtain ⟨A3, c3, he3, hc3⟩ := FG5.out.keep hX (Nat.le_refl _)
      cases he3
      obtain ⟨b3, o3, he4, hcg⟩ := hc3.resolve_left (by omega)
      obtain ⟨rfl, rfl⟩ : bb = b3 ∧ bo = o3 := by simpa using he4
      exact hcg i hi
    have hang := HO.out.ang l[i] (List.getElem_mem hi)
    have hrl := roomLo_at hi e []
    have hrh := roomHi_at hi e []
    simp only [List.contains_nil, Bool.false_eq_true, if_false] at hrl hrh
    obtain ⟨q, hq⟩ : ∃ q, l[i].g = q := ⟨_, rfl⟩
    obtain ⟨rd, hrd⟩ : ∃ q, l[i].r = q := ⟨_, rfl⟩
    rw [hq, hrd] at hang hrl hrh
    obtain ⟨wd, hwd⟩ : ∃ x, e * q = x := ⟨_, rfl⟩
    rw [hwd] at hrl hrh
    have wd0 : 0 ≤ wd := by rw [← hwd]; exact Int.mul_nonneg e0.1 (by omega)
    have wd1 : wd ≤ 15 := by
      have h5 : e * q ≤ 5 * 3 := Int.mul_le_mul (by omega) (by omega) (by omega) (by omega)
      omega
    obtain ⟨LO, hLO⟩ : ∃ x, max 0 (rd - wd) = x := ⟨_, rfl⟩
    obtain ⟨HI, hHI⟩ : ∃ x, min 40 (rd + wd) = x := ⟨_, rfl⟩
    rw [hLO] at hrl
    rw [hHI] at hrh
    have v1 : IntKind.i64.wrap wd = wd := IntWalk.i64_in _ (by omega)
    have v2 : IntKind.i64.wrap (rd - wd) = rd - wd := IntWalk.i64_in _ (by omega)
    have v3 : IntKind.i64.wrap (rd + wd) = rd + wd := IntWalk.i64_in _ (by omega)
    have hmx : (if wd < rd then rd - wd else 0) = LO := by rw [← hLO]; split <;> omega
    have hmn : (if rd + wd < 40 then rd + wd else 40) = HI := by rw [← hHI]; split <;> omega
    have lo_ := HBE.out.lo i hi
    have hi_ := HBE.out.hi i hi
    obtain ⟨p, hp⟩ : ∃ x, bl i = x := ⟨_, rfl⟩
    obtain ⟨r, hr⟩ : ∃ x, bh i = x := ⟨_, rfl⟩
    have pq : LO ≤ p ∧ p ≤ HI ∧ LO ≤ r ∧ r ≤ HI ∧ 0 ≤ LO ∧ HI ≤ 40 := by
      have a1 := lo_.ge
      have a2 := lo_.le
      have a3 := hi_.ge
      have a4 := hi_.le
      rw [hrl, hp] at a1
      rw [hrh, hp] at a2
      rw [hrl, hr] at a3
      rw [hrh, hr] at a4
      omega
    have HRL := Lib.hid hrl
    have HRH := Lib.hid hrh
    have HQ := Lib.hid (show e * l[i].g = wd by rw [hq]; exact hwd)
    have HPL := Lib.hid hp
    have HPH := Lib.hid hr
    rw [hp, hr] at RNG
    have HRNG := Lib.hid RNG
    have HANG := Lib.hid ANG
    obtain ⟨x0, x1, x2, x3⟩ := ANG _ (Below.refl _ _)
    rw [hrd] at x2
    rw [hq] at x3
    have hwd' : IntKind.i64.wrap (e * q) = wd := by rw [hwd]; exact v1
    clear RNG ANG lo_ hi_ hrl hrh hp hr hang hq hrd hLO hHI
    go_upto_region 10 with fail
    go_quiet (fail)
    go_wp2_with fail
    go_loopw [16] (EnRel w5) (fun i _ => 4 - (intOf i).toNat)
    case atStart => exact ⟨0, by omega, rfl, (Below.refl _ _).drewN _⟩
    case round =>
      obtain ⟨c, hc, rfl, hbe⟩ := hrel
      have HBX := Lib.hid hbe
      obtain ⟨g0, g1⟩ := HRNG.out _ hbe
      clear hbe
      by_cases hlt : c < 4
      · obtain ⟨R0, hR0⟩ : ∃ R, p - wd = R := ⟨_, rfl⟩
        obtain ⟨R1, hR1⟩ : ∃ R, r + wd = R := ⟨_, rfl⟩
        obtain ⟨R2, hR2⟩ : ∃ R, p - 1 - wd = R := ⟨_, rfl⟩
        obtain ⟨R3, hR3⟩ : ∃ R, r + 1 + wd = R := ⟨_, rfl⟩
        have s0 : IntKind.i64.wrap (p - wd) = R0 := by rw [hR0]; exact IntWalk.i64_in _ (by omega)
        have s1 : IntKind.i64.wrap (r + wd) = R1 := by rw [hR1]; exact IntWalk.i64_in _ (by omega)
        have s2 : IntKind.i64.wrap (p - 1) = p - 1 := IntWalk.i64_in _ (by omega)
        have s3 : IntKind.i64.wrap (p - 1 - wd) = R2 := by rw [hR2]; exact IntWalk.i64_in _ (by omega)
        have s4 : IntKind.i64.wrap (r + 1) = r + 1 := IntWalk.i64_in _ (by omega)
        have s5 : IntKind.i64.wrap (r + 1 + wd) = R3 := by rw [hR3]; exact IntWalk.i64_in _ (by omega)
        have HR0 := Lib.hid hR0
        have HR1 := Lib.hid hR1
        have HR2 := Lib.hid hR2
        have HR3 := Lib.hid hR3
        clear hR0 hR1 hR2 hR3
        rcases (show c = 0 ∨ c = 1 ∨ c = 2 ∨ c = 3 by omega) with rfl | rfl | rfl | rfl
        · cases hin : inB R0 0 40 with
          | false =>
            have HIN := Lib.hid hin
            clear hin hlt hc
            go_wp2_with fail
            refine wp_region_held_drew (S := fun X => X.cell? ⟨bb, bo + i * 2, none⟩ = some (.int .i64 p) ∧ X.cell? ⟨bb, bo + i * 2 + 1, none⟩ = some (.int .i64 r)) (by kernel_rfl) (⟨g0, g1⟩) (fun hS0 => ?_)
            refine wpAnyH_take (i := 0) (oi := { dst := some 86, op := Op.move (Operand.tmp 10), type := 52, pos := "outright.go:133", after := #[], guard := none }) (v := ?_) rfl (by kernel_rfl) (by kernel_rfl) (by kernel_rfl) (fun _ _ _ h => h) (Or.inl ⟨by rfl, ?_⟩) hS0 ?_
            rotate_left
            · intro X hX
              obtain ⟨x0, x1⟩ := hX
              go_simp
              try with_reducible rfl
            simp only [Act.put, List.setIfInBounds_toArray, List.set_cons_zero, List.set_cons_succ, Array.toArray_toList]
            refine wpAnyH_take (i := 1) (oi := { dst := some 87, op := Op.move (Operand.tmp 12), type := 3, pos := "outright.go:133", after := #[], guard := none }) (v := ?_) rfl (by kernel_rfl) (by kernel_rfl) (by kernel_rfl) (fun _ _ _ h => h) (Or.inl ⟨by rfl, ?_⟩) hS0 ?_
            rotate_left
            · intro X hX
              obtain ⟨x0, x1⟩ := hX
              go_simp
              try with_reducible rfl
            simp only [Act.put, List.setIfInBounds_toArray, List.set_cons_zero, List.set_cons_succ, Array.toArray_toList]
            refine wpAnyH_take (i := 2) (oi := { dst := some 88, op := Op.indexAddr 52 (Operand.tmp 86) (Operand.tmp 87), type := 0, pos := "outright.go:133", after := #[{ on := 0, ground := Ground.data }, { on := 1, ground := Ground.data }], guard := none }) (v := ?_) rfl (by kernel_rfl) (by kernel_rfl) (by kernel_rfl) (fun _ _ _ h => h) (Or.inl ⟨by rfl, ?_⟩) hS0 ?_
            rotate_left
            · intro X hX
              obtain ⟨x0, x1⟩ := hX
              go_simp
              try with_reducible rfl
            simp only [Act.put, List.setIfInBounds_toArray, List.set_cons_zero, List.set_cons_succ, Array.toArray_toList]
            refine wpAnyH_take (i := 3) (oi := { dst := some 89, op := Op.fieldAddr 58 (Operand.tmp 88) 0, type := 0, pos := "outright.go:133", after := #[{ on := 2, ground := Ground.data }], guard := none }) (v := ?_) rfl (by kernel_rfl) (by kernel_rfl) (by kernel_rfl) (fun _ _ _ h => h) (Or.inl ⟨by rfl, ?_⟩) hS0 ?_
            rotate_left
            · intro X hX
              obtain ⟨x0, x1⟩ := hX
              go_simp
              try with_reducible rfl
            simp only [Act.put, List.setIfInBounds_toArray, List.set_cons_zero, List.set_cons_succ, Array.toArray_toList]
            refine wpAnyH_take (i := 4) (oi := { dst := some 90, op := Op.load 3 (Operand.tmp 89), type := 3, pos := "outright.go:133", after := #[{ on := 3, ground := Ground.data }], guard := none }) (v := ?_) rfl (by kernel_rfl) (by kernel_rfl) (by kernel_rfl) (fun _ _ _ h => h) (Or.inl ⟨by rfl, ?_⟩) hS0 ?_
            rotate_left
            · intro X hX
              obtain ⟨x0, x1⟩ := hX
              go_simp
              try with_reducible rfl
            simp only [Act.put, List.setIfInBounds_toArray, List.set_cons_zero, List.set_cons_succ, Array.toArray_toList]
            refine wpAnyH_take (i := 5) (oi := { dst := some 91, op := Op.move (Operand.tmp 13), type := 3, pos := "outright.go:133", after := #[], guard := none }) (v := ?_) rfl (by kernel_rfl) (by kernel_rfl) (by kernel_rfl) (fun _ _ _ h => h) (Or.inl ⟨by rfl, ?_⟩) hS0 ?_
            rotate_left
            · intro X hX
              obtain ⟨x0, x1⟩ := hX
              go_simp
              try with_reducible rfl
            simp only [Act.put, List.setIfInBounds_toArray, List.set_cons_zero, List.set_cons_succ, Array.toArray_toList]
            refine wpAnyH_take (i := 6) (oi := { dst := some 92, op := Op.binOp BinOp.sub 3 (Operand.tmp 90) (Operand.tmp 91) 3, type := 3, pos := "outright.go:133", after := #[{ on := 4, ground := Ground.data }, { on := 5, ground := Ground.data }], guard := none }) (v := ?_) rfl (by kernel_rfl) (by kernel_rfl) (by kernel_rfl) (fun _ _ _ h => h) (Or.inl ⟨by rfl, ?_⟩) hS0 ?_
            rotate_left
            · intro X hX
              obtain ⟨x0, x1⟩ := hX
              go_simp
              try with_reducible rfl
            simp only [Act.put, List.setIfInBounds_toArray, List.set_cons_zero, List.set_cons_succ, Array.toArray_toList]
            refine wpAnyH_take (i := 7) (oi := { dst := some 93, op := Op.move (Operand.tmp 10), type := 52, pos := "outright.go:133", after := #[], guard := none }) (v := ?_) rfl (by kernel_rfl) (by kernel_rfl) (by kernel_rfl) (fun _ _ _ h => h) (Or.inl ⟨by rfl, ?_⟩) hS0 ?_
            rotate_left
            · intro X hX
              obtain ⟨x0, x1⟩ := hX
              go_simp
              try with_reducible rfl
            simp only [Act.put, List.setIfInBounds_toArray, List.set_cons_zero, List.set_cons_succ, Array.toArray_toList]
            refine wpAnyH_take (i := 8) (oi := { dst := some 94, op := Op.move (Operand.tmp 12), type := 3, pos := "outright.go:133", after := #[], guard := none }) (v := ?_) rfl (by kernel_rfl) (by kernel_rfl) (by kernel_rfl) (fun _ _ _ h => h) (Or.inl ⟨by rfl, ?_⟩) hS0 ?_
            rotate_left
            · intro X hX
              obtain ⟨x0, x1⟩ := hX
              go_simp
              try with_reducible rfl
            simp only [Act.put, List.setIfInBounds_toArray, List.set_cons_zero, List.set_cons_succ, Array.toArray_toList]
            refine wpAnyH_take (i := 9) (oi := { dst := some 95, op := Op.indexAddr 52 (Operand.tmp 93) (Operand.tmp 94), type := 0, pos := "outright.go:133", after := #[{ on := 7, ground := Ground.data }, { on := 8, ground := Ground.data }], guard := none }) (v := ?_) rfl (by kernel_rfl) (by kernel_rfl) (by kernel_rfl) (fun _ _ _ h => h) (Or.inl ⟨by rfl, ?_⟩) hS0 ?_
            rotate_left
            · intro X hX
              obtain ⟨x0, x1⟩ := hX
              go_simp
              try with_reducible rfl
            simp only [Act.put, List.setIfInBounds_toArray, List.set_cons_zero, List.set_cons_succ, Array.toArray_toList]
            refine wpAnyH_take (i := 10) (oi := { dst := some 96, op := Op.fieldAddr 58 (Operand.tmp 95) 1, type := 0, pos := "outright.go:133", after := #[{ on := 9, ground := Ground.data }], guard := none }) (v := ?_) rfl (by kernel_rfl) (by kernel_rfl) (by kernel_rfl) (fun _ _ _ h => h) (Or.inl ⟨by rfl, ?_⟩) hS0 ?_
            rotate_left
            · intro X hX
              obtain ⟨x0, x1⟩ := hX
              go_simp
              try with_reducible rfl
            simp only [Act.put, List.setIfInBounds_toArray, List.set_cons_zero, List.set_cons_succ, Array.toArray_toList]
            refine wpAnyH_take (i := 11) (oi := { dst := some 97, op := Op.load 3 (Operand.tmp 96), type := 3, pos := "outright.go:133", after := #[{ on := 10, ground := Ground.data }], guard := none }) (v := ?_) rfl (by kernel_rfl) (by kernel_rfl) (by kernel_rfl) (fun _ _ _ h => h) (Or.inl ⟨by rfl, ?_⟩) hS0 ?_
            rotate_left
            · intro X hX
              obtain ⟨x0, x1⟩ := hX
              go_simp
              try with_reducible rfl
            simp only [Act.put, List.setIfInBounds_toArray, List.set_cons_zero, List.set_cons_succ, Array.toArray_toList]
            refine wpAnyH_take (i := 12) (oi := { dst := some 98, op := Op.move (Operand.tmp 13), type := 3, pos := "outright.go:133", after := #[], guard := none }) (v := ?_) rfl (by kernel_rfl) (by kernel_rfl) (by kernel_rfl) (fun _ _ _ h => h) (Or.inl ⟨by rfl, ?_⟩) hS0 ?_
            rotate_left
            · intro X hX
              obtain ⟨x0, x1⟩ := hX
              go_simp
              try with_reducible rfl
            simp only [Act.put, List.setIfInBounds_toArray, List.set_cons_zero, List.set_cons_succ, Array.toArray_toList]
            refine wpAnyH_take (i := 13) (oi := { dst := some 99, op := Op.binOp BinOp.add 3 (Operand.tmp 97) (Operand.tmp 98) 3, type := 3, pos := "outright.go:133", after := #[{ on := 11, ground := Ground.data }, { on := 12, ground := Ground.data }], guard := none }) (v := ?_) rfl (by kernel_rfl) (by kernel_rfl) (by kernel_rfl) (fun _ _ _ h => h) (Or.inl ⟨by rfl, ?_⟩) hS0 ?_
            rotate_left
            · intro X hX
              obtain ⟨x0, x1⟩ := hX
              go_simp
              try with_reducible rfl
            simp only [Act.put, List.setIfInBounds_toArray, List.set_cons_zero, List.set_cons_succ, Array.toArray_toList]
            refine wpAnyH_take (i := 14) (oi := { dst := some 100, op := Op.move (Operand.tmp 10), type := 52, pos := "outright.go:133", after := #[], guard := none }) (v := ?_) rfl (by kernel_rfl) (by kernel_rfl) (by kernel_rfl) (fun _ _ _ h => h) (Or.inl ⟨by rfl, ?_⟩) hS0 ?_
            rotate_left
            · intro X hX
              obtain ⟨x0, x1⟩ := hX
              go_simp
              try with_reducible rfl
            simp only [Act.put, List.setIfInBounds_toArray, List.set_cons_zero, List.set_cons_succ, Array.toArray_toList]
            refine wpAnyH_take (i := 15) (oi := { dst := some 101, op := Op.move (Operand.tmp 12), type := 3, pos := "outright.go:133", after := #[], guard := none }) (v := ?_) rfl (by kernel_rfl) (by kernel_rfl) (by kernel_rfl) (fun _ _ _ h => h) (Or.inl ⟨by rfl, ?_⟩) hS0 ?_
            rotate_left
            · intro X hX
              obtain ⟨x0, x1⟩ := hX
              go_simp
              try with_reducible rfl
            simp only [Act.put, List.setIfInBounds_toArray, List.set_cons_zero, List.set_cons_succ, Array.toArray_toList]
            refine wpAnyH_take (i := 16) (oi := { dst := some 102, op := Op.indexAddr 52 (Operand.tmp 100) (Operand.tmp 101), type := 0, pos := "outright.go:133", after := #[{ on := 14, ground := Ground.data }, { on := 15, ground := Ground.data }], guard := none }) (v := ?_) rfl (by kernel_rfl) (by kernel_rfl) (by kernel_rfl) (fun _ _ _ h => h) (Or.inl ⟨by rfl, ?_⟩) hS0 ?_
            rotate_left
            · intro X hX
              obtain ⟨x0, x1⟩ := hX
              go_simp
              try with_reducible rfl
            simp only [Act.put, List.setIfInBounds_toArray, List.set_cons_zero, List.set_cons_succ, Array.toArray_toList]
            refine wpAnyH_take (i := 17) (oi := { dst := some 103, op := Op.fieldAddr 58 (Operand.tmp 102) 0, type := 0, pos := "outright.go:133", after := #[{ on := 16, ground := Ground.data }], guard := none }) (v := ?_) rfl (by kernel_rfl) (by kernel_rfl) (by kernel_rfl) (fun _ _ _ h => h) (Or.inl ⟨by rfl, ?_⟩) hS0 ?_
            rotate_left
            · intro X hX
              obtain ⟨x0, x1⟩ := hX
              go_simp
              try with_reducible rfl
            simp only [Act.put, List.setIfInBounds_toArray, List.set_cons_zero, List.set_cons_succ, Array.toArray_toList]
            refine wpAnyH_take (i := 18) (oi := { dst := some 104, op := Op.load 3 (Operand.tmp 103), type := 3, pos := "outright.go:133", after := #[{ on := 17, ground := Ground.data }], guard := none }) (v := ?_) rfl (by kernel_rfl) (by kernel_rfl) (by kernel_rfl) (fun _ _ _ h => h) (Or.inl ⟨by rfl, ?_⟩) hS0 ?_
            rotate_left
            · intro X hX
              obtain ⟨x0, x1⟩ := hX
              go_simp
              try with_reducible rfl
            simp only [Act.put, List.setIfInBounds_toArray, List.set_cons_zero, List.set_cons_succ, Array.toArray_toList]
            refine wpAnyH_take (i := 19) (oi := { dst := some 105, op := Op.binOp BinOp.sub 3 (Operand.tmp 104) (Operand.const (Value.int IntKind.i64 1)) 3, type := 3, pos := "outright.go:133", after := #[{ on := 18, ground := Ground.data }], guard := none }) (v := ?_) rfl (by kernel_rfl) (by kernel_rfl) (by kernel_rfl) (fun _ _ _ h => h) (Or.inl ⟨by rfl, ?_⟩) hS0 ?_
            rotate_left
            · intro X hX
              obtain ⟨x0, x1⟩ := hX
              go_simp
              try with_reducible rfl
            simp only [Act.put, List.setIfInBounds_toArray, List.set_cons_zero, List.set_cons_succ, Array.toArray_toList]
            refine wpAnyH_take (i := 20) (oi := { dst := some 106, op := Op.move (Operand.tmp 13), type := 3, pos := "outright.go:133", after := #[], guard := none }) (v := ?_) rfl (by kernel_rfl) (by kernel_rfl) (by kernel_rfl) (fun _ _ _ h => h) (Or.inl ⟨by rfl, ?_⟩) hS0 ?_
            rotate_left
            · intro X hX
              obtain ⟨x0, x1⟩ := hX
              go_simp
              try with_reducible rfl
            simp only [Act.put, List.setIfInBounds_toArray, List.set_cons_zero, List.set_cons_succ, Array.toArray_toList]
            refine wpAnyH_take (i := 21) (oi := { dst := some 107, op := Op.binOp BinOp.sub 3 (Operand.tmp 105) (Operand.tmp 106) 3, type := 3, pos := "outright.go:133", after := #[{ on := 19, ground := Ground.data }, { on := 20, ground := Ground.data }], guard := none }) (v := ?_) rfl (by kernel_rfl) (by kernel_rfl) (by kernel_rfl) (fun _ _ _ h => h) (Or.inl ⟨by rfl, ?_⟩) hS0 ?_
            rotate_left
            · intro X hX
              obtain ⟨x0, x1⟩ := hX
              go_simp
              try with_reducible rfl
            simp only [Act.put, List.setIfInBounds_toArray, List.set_cons_zero, List.set_cons_succ, Array.toArray_toList]
            refine wpAnyH_take (i := 22) (oi := { dst := some 108, op := Op.move (Operand.tmp 10), type := 52, pos := "outright.go:133", after := #[], guard := none }) (v := ?_) rfl (by kernel_rfl) (by kernel_rfl) (by kernel_rfl) (fun _ _ _ h => h) (Or.inl ⟨by rfl, ?_⟩) hS0 ?_
            rotate_left
            · intro X hX
              obtain ⟨x0, x1⟩ := hX
              go_simp
              try with_reducible rfl
            simp only [Act.put, List.setIfInBounds_toArray, List.set_cons_zero, List.set_cons_succ, Array.toArray_toList]
            refine wpAnyH_take (i := 23) (oi := { dst := some 109, op := Op.move (Operand.tmp 12), type := 3, pos := "outright.go:133", after := #[], guard := none }) (v := ?_) rfl (by kernel_rfl) (by kernel_rfl) (by kernel_rfl) (fun _ _ _ h => h) (Or.inl ⟨by rfl, ?_⟩) hS0 ?_
            rotate_left
            · intro X hX
              obtain ⟨x0, x1⟩ := hX
              go_simp
              try with_reducible rfl
            simp only [Act.put, List.setIfInBounds_toArray, List.set_cons_zero, List.set_cons_succ, Array.toArray_toList]
            refine wpAnyH_take (i := 24) (oi := { dst := some 110, op := Op.indexAddr 52 (Operand.tmp 108) (Operand.tmp 109), type := 0, pos := "outright.go:133", after := #[{ on := 22, ground := Ground.data }, { on := 23, ground := Ground.data }], guard := none }) (v := ?_) rfl (by kernel_rfl) (by kernel_rfl) (by kernel_rfl) (fun _ _ _ h => h) (Or.inl ⟨by rfl, ?_⟩) hS0 ?_
            rotate_left
            · intro X hX
              obtain ⟨x0, x1⟩ := hX
              go_simp
              try with_reducible rfl
            simp only [Act.put, List.setIfInBounds_toArray, List.set_cons_zero, List.set_cons_succ, Array.toArray_toList]
            refine wpAnyH_take (i := 25) (oi := { dst := some 111, op := Op.fieldAddr 58 (Operand.tmp 110) 1, type := 0, pos := "outright.go:133", after := #[{ on := 24, ground := Ground.data }], guard := none }) (v := ?_) rfl (by kernel_rfl) (by kernel_rfl) (by kernel_rfl) (fun _ _ _ h => h) (Or.inl ⟨by rfl, ?_⟩) hS0 ?_
            rotate_left
            · intro X hX
              obtain ⟨x0, x1⟩ := hX
              go_simp
              try with_reducible rfl
            simp only [Act.put, List.setIfInBounds_toArray, List.set_cons_zero, List.set_cons_succ, Array.toArray_toList]
            refine wpAnyH_take (i := 26) (oi := { dst := some 112, op := Op.load 3 (Operand.tmp 111), type := 3, pos := "outright.go:133", after := #[{ on := 25, ground := Ground.data }], guard := none }) (v := ?_) rfl (by kernel_rfl) (by kernel_rfl) (by kernel_rfl) (fun _ _ _ h => h) (Or.inl ⟨by rfl, ?_⟩) hS0 ?_
            rotate_left
            · intro X hX
              obtain ⟨x0, x1⟩ := hX
              go_simp
              try with_reducible rfl
            simp only [Act.put, List.setIfInBounds_toArray, List.set_cons_zero, List.set_cons_succ, Array.toArray_toList]
            refine wpAnyH_take (i := 27) (oi := { dst := some 113, op := Op.binOp BinOp.add 3 (Operand.tmp 112) (Operand.const (Value.int IntKind.i64 1)) 3, type := 3, pos := "outright.go:133", after := #[{ on := 26, ground := Ground.data }], guard := none }) (v := ?_) rfl (by kernel_rfl) (by kernel_rfl) (by kernel_rfl) (fun _ _ _ h => h) (Or.inl ⟨by rfl, ?_⟩) hS0 ?_
            rotate_left
            · intro X hX
              obtain ⟨x0, x1⟩ := hX
              go_simp
              try with_reducible rfl
            simp only [Act.put, List.setIfInBounds_toArray, List.set_cons_zero, List.set_cons_succ, Array.toArray_toList]
            refine wpAnyH_take (i := 28) (oi := { dst := some 114, op := Op.move (Operand.tmp 13), type := 3, pos := "outright.go:133", after := #[], guard := none }) (v := ?_) rfl (by kernel_rfl) (by kernel_rfl) (by kernel_rfl) (fun _ _ _ h => h) (Or.inl ⟨by rfl, ?_⟩) hS0 ?_
            rotate_left
            · intro X hX
              obtain ⟨x0, x1⟩ := hX
              go_simp
              try with_reducible rfl
            simp only [Act.put, List.setIfInBounds_toArray, List.set_cons_zero, List.set_cons_succ, Array.toArray_toList]
            refine wpAnyH_take (i := 29) (oi := { dst := some 115, op := Op.binOp BinOp.add 3 (Operand.tmp 113) (Operand.tmp 114) 3, type := 3, pos := "outright.go:133", after := #[{ on := 27, ground := Ground.data }, { on := 28, ground := Ground.data }], guard := none }) (v := ?_) rfl (by kernel_rfl) (by kernel_rfl) (by kernel_rfl) (fun _ _ _ h => h) (Or.inl ⟨by rfl, ?_⟩) hS0 ?_
            rotate_left
            · intro X hX
              obtain ⟨x0, x1⟩ := hX
              go_simp
              try with_reducible rfl
            simp only [Act.put, List.setIfInBounds_toArray, List.set_cons_zero, List.set_cons_succ, Array.toArray_toList]
            refine wpAnyH_take (i := 31) (oi := { dst := some 117, op := Op.move (Operand.tmp 16), type := 3, pos := "outright.go:133", after := #[], guard := none }) (v := ?_) rfl (by kernel_rfl) (by kernel_rfl) (by kernel_rfl) (fun _ _ _ h => h) (Or.inl ⟨by rfl, ?_⟩) hS0 ?_
            rotate_left
            · intro X hX
              obtain ⟨x0, x1⟩ := hX
              go_simp
              try with_reducible rfl
            simp only [Act.put, List.setIfInBounds_toArray, List.set_cons_zero, List.set_cons_succ, Array.toArray_toList]
            refine wpAnyH_ready (rs := [30]) (by kernel_rfl) (by simp) (AllReadyH.cons (o := { dst := some 116, op := Op.buildSlice 25 4 #[(0, Operand.tmp 92), (1, Operand.tmp 99), (2, Operand.tmp 107), (3, Operand.tmp 115)], type := 25, pos := "outright.go:133", after := #[{ on := 6, ground := Ground.data }, { on := 13, ground := Ground.data }, { on := 21, ground := Ground.data }, { on := 29, ground := Ground.data }], guard := none }) rfl (fun K hK => ?_) AllReadyH.nil)
            go_simp
            try simp only [s0, s1, s2, s3, s4, s5]
            have hb : Below wr.heap.size wr (wr.alloc (.cells #[.int .i64 R0, .int .i64 R1, .int .i64 R2, .int .i64 R3] 3)).drew := ((Below.refl _ _).alloc (Nat.le_refl _) _).drew
            have hnn : (wr.alloc (.cells #[.int .i64 R0, .int .i64 R1, .int .i64 R2, .int .i64 R3] 3)).drew.heap[wr.heap.size]? = some (.cells #[.int .i64 R0, .int .i64 R1, .int .i64 R2, .int .i64 R3] 3 (0, 0)) := Go.heap_alloc_new wr _
            obtain ⟨Bn, hBn⟩ : ∃ B, wr.heap.size = B := ⟨_, rfl⟩
            have HBY := Lib.hid (HBX.out.trans (hb.mono HBX.out.size))
            have m0 := cell_later hb g0
            have m1 := cell_later hb g1
            rw [hBn] at hnn ⊢
            clear hBn hb
            generalize (wr.alloc (.cells #[.int .i64 R0, .int .i64 R1, .int .i64 R2, .int .i64 R3] 3)).drew = y1 at HBY hnn m0 m1 ⊢
            refine hK.out _ _ (⟨m0, m1⟩) (fun hS1 => ?_)
            clear hS0 hK K
            have ck : y1.cell? ⟨Bn, 0, none⟩ = some (.int .i64 R0) := by simp [World.cell?, hnn]
            clear hnn
            refine wpAnyH_take (i := 32) (oi := { dst := some 118, op := Op.indexAddr 25 (Operand.tmp 116) (Operand.tmp 117), type := 0, pos := "outright.go:133", after := #[{ on := 30, ground := Ground.data }, { on := 31, ground := Ground.data }], guard := none }) (v := ?_) rfl (by kernel_rfl) (by kernel_rfl) (by kernel_rfl) (fun _ _ _ h => h) (Or.inl ⟨by rfl, ?_⟩) hS1 ?_
            rotate_left
            · intro X hX
              obtain ⟨x0, x1⟩ := hX
              go_simp
              try with_reducible rfl
            simp only [Act.put, List.setIfInBounds_toArray, List.set_cons_zero, List.set_cons_succ, Array.toArray_toList]
            refine wpAnyH_ready (rs := [33]) (by kernel_rfl) (by simp) (AllReadyH.cons (o := { dst := some 119, op := Op.load 3 (Operand.tmp 118), type := 3, pos := "outright.go:133", after := #[{ on := 32, ground := Ground.data }], guard := none }) rfl (fun K hK => ?_) AllReadyH.nil)
            go_simp
            refine hK.out _ _ (hS1) (fun hS2 => ?_)
            clear hS1 hK K
            refine wpAnyH_take (i := 34) (oi := { dst := some 17, op := Op.assign (Operand.tmp 119), type := 3, pos := "outright.go:133", after := #[{ on := 33, ground := Ground.data }, { on := 0, ground := Ground.phase }, { on := 1, ground := Ground.phase }, { on := 2, ground := Ground.phase }, { on := 3, ground := Ground.phase }, { on := 4, ground := Ground.phase }, { on := 5, ground := Ground.phase }, { on := 6, ground := Ground.phase }, { on := 7, ground := Ground.phase }, { on := 8, ground := Ground.phase }, { on := 9, ground := Ground.phase }, { on := 10, ground := Ground.phase }, { on := 11, ground := Ground.phase }, { on := 12, ground := Ground.phase }, { on := 13, ground := Ground.phase }, { on := 14, ground := Ground.phase }, { on := 15, ground := Ground.phase }, { on := 16, ground := Ground.phase }, { on := 17, ground := Ground.phase }, { on := 18, ground := Ground.phase }, { on := 19, ground := Ground.phase }, { on := 20, ground := Ground.phase }, { on := 21, ground := Ground.phase }, { on := 22, ground := Ground.phase }, { on := 23, ground := Ground.phase }, { on := 24, ground := Ground.phase }, { on := 25, ground := Ground.phase }, { on := 26, ground := Ground.phase }, { on := 27, ground := Ground.phase }, { on := 28, ground := Ground.phase }, { on := 29, ground := Ground.phase }, { on := 30, ground := Ground.phase }, { on := 31, ground := Ground.phase }, { on := 32, ground := Ground.phase }, { on := 33, ground := Ground.phase }], guard := none }) (v := ?_) rfl (by kernel_rfl) (by kernel_rfl) (by kernel_rfl) (fun _ _ _ h => h) (Or.inl ⟨by rfl, ?_⟩) hS2 ?_
            rotate_left
            · intro X hX
              obtain ⟨x0, x1⟩ := hX
              go_simp
              try with_reducible rfl
            simp only [Act.put, List.setIfInBounds_toArray, List.set_cons_zero, List.set_cons_succ, Array.toArray_toList]
            refine wpAnyH_done (by kernel_rfl) ?_ _
            clear hS2
            clear ck g0 g1
            have hcin := Lib.hid (refIn_any R0 0 40 y1)
            rw [HIN.out] at hcin
            go_wp2_with fail
            refine hcin.out.mono ?_
            rintro e' y2 ⟨rfl, rfl⟩
            clear hcin
            go_wp2_with fail
            go_roundw
            case rel => exact ⟨1, by omega, by go_num, HBY.out⟩
            case measure => simp [intOf]
          | true =>
            have HIN := Lib.hid hin
            clear hin hlt hc
            go_wp2_with fail
            refine wp_region_held_drew (S := fun X => X.cell? ⟨bb, bo + i * 2, none⟩ = some (.int .i64 p) ∧ X.cell? ⟨bb, bo + i * 2 + 1, none⟩ = some (.int .i64 r)) (by kernel_rfl) (⟨g0, g1⟩) (fun hS0 => ?_)
            refine wpAnyH_take (i := 0) (oi := { dst := some 86, op := Op.move (Operand.tmp 10), type := 52, pos := "outright.go:133", after := #[], guard := none }) (v := ?_) rfl (by kernel_rfl) (by kernel_rfl) (by kernel_rfl) (fun _ _ _ h => h) (Or.inl ⟨by rfl, ?_⟩) hS0 ?_
            rotate_left
            · intro X hX
              obtain ⟨x0, x1⟩ := hX
              go_simp
              try with_reducible rfl
            simp only [Act.put, List.setIfInBounds_toArray, List.set_cons_zero, List.set_cons_succ, Array.toArray_toList]
            refine wpAnyH_take (i := 1) (oi := { dst := some 87, op := Op.move (Operand.tmp 12), type := 3, pos := "outright.go:133", after := #[], guard := none }) (v := ?_) rfl (by kernel_rfl) (by kernel_rfl) (by kernel_rfl) (fun _ _ _ h => h) (Or.inl ⟨by rfl, ?_⟩) hS0 ?_
            rotate_left
            · intro X hX
              obtain ⟨x0, x1⟩ := hX
              go_simp
              try with_reducible rfl
            simp only [Act.put, List.setIfInBounds_toArray, List.set_cons_zero, List.set_cons_succ, Array.toArray_toList]
            refine wpAnyH_take (i := 2) (oi := { dst := some 88, op := Op.indexAddr 52 (Operand.tmp 86) (Operand.tmp 87), type := 0, pos := "outright.go:133", after := #[{ on := 0, ground := Ground.data }, { on := 1, ground := Ground.data }], guard := none }) (v := ?_) rfl (by kernel_rfl) (by kernel_rfl) (by kernel_rfl) (fun _ _ _ h => h) (Or.inl ⟨by rfl, ?_⟩) hS0 ?_
            rotate_left
            · intro X hX
              obtain ⟨x0, x1⟩ := hX
              go_simp
              try with_reducible rfl
            simp only [Act.put, List.setIfInBounds_toArray, List.set_cons_zero, List.set_cons_succ, Array.toArray_toList]
            refine wpAnyH_take (i := 3) (oi := { dst := some 89, op := Op.fieldAddr 58 (Operand.tmp 88) 0, type := 0, pos := "outright.go:133", after := #[{ on := 2, ground := Ground.data }], guard := none }) (v := ?_) rfl (by kernel_rfl) (by kernel_rfl) (by kernel_rfl) (fun _ _ _ h => h) (Or.inl ⟨by rfl, ?_⟩) hS0 ?_
            rotate_left
            · intro X hX
              obtain ⟨x0, x1⟩ := hX
              go_simp
              try with_reducible rfl
            simp only [Act.put, List.setIfInBounds_toArray, List.set_cons_zero, List.set_cons_succ, Array.toArray_toList]
            refine wpAnyH_take (i := 4) (oi := { dst := some 90, op := Op.load 3 (Operand.tmp 89), type := 3, pos := "outright.go:133", after := #[{ on := 3, ground := Ground.data }], guard := none }) (v := ?_) rfl (by kernel_rfl) (by kernel_rfl) (by kernel_rfl) (fun _ _ _ h => h) (Or.inl ⟨by rfl, ?_⟩) hS0 ?_
            rotate_left
            · intro X hX
              obtain ⟨x0, x1⟩ := hX
              go_simp
              try with_reducible rfl
            simp only [Act.put, List.setIfInBounds_toArray, List.set_cons_zero, List.set_cons_succ, Array.toArray_toList]
            refine wpAnyH_take (i := 5) (oi := { dst := some 91, op := Op.move (Operand.tmp 13), type := 3, pos := "outright.go:133", after := #[], guard := none }) (v := ?_) rfl (by kernel_rfl) (by kernel_rfl) (by kernel_rfl) (fun _ _ _ h => h) (Or.inl ⟨by rfl, ?_⟩) hS0 ?_
            rotate_left
            · intro X hX
              obtain ⟨x0, x1⟩ := hX
              go_simp
              try with_reducible rfl
            simp only [Act.put, List.setIfInBounds_toArray, List.set_cons_zero, List.set_cons_succ, Array.toArray_toList]
            refine wpAnyH_take (i := 6) (oi := { dst := some 92, op := Op.binOp BinOp.sub 3 (Operand.tmp 90) (Operand.tmp 91) 3, type := 3, pos := "outright.go:133", after := #[{ on := 4, ground := Ground.data }, { on := 5, ground := Ground.data }], guard := none }) (v := ?_) rfl (by kernel_rfl) (by kernel_rfl) (by kernel_rfl) (fun _ _ _ h => h) (Or.inl ⟨by rfl, ?_⟩) hS0 ?_
            rotate_left
            · intro X hX
              obtain ⟨x0, x1⟩ := hX
              go_simp
              try with_reducible rfl
            simp only [Act.put, List.setIfInBounds_toArray, List.set_cons_zero, List.set_cons_succ, Array.toArray_toList]
            refine wpAnyH_take (i := 7) (oi := { dst := some 93, op := Op.move (Operand.tmp 10), type := 52, pos := "outright.go:133", after := #[], guard := none }) (v := ?_) rfl (by kernel_rfl) (by kernel_rfl) (by kernel_rfl) (fun _ _ _ h => h) (Or.inl ⟨by rfl, ?_⟩) hS0 ?_
            rotate_left
            · intro X hX
              obtain ⟨x0, x1⟩ := hX
              go_simp
              try with_reducible rfl
            simp only [Act.put, List.setIfInBounds_toArray, List.set_cons_zero, List.set_cons_succ, Array.toArray_toList]
            refine wpAnyH_take (i := 8) (oi := { dst := some 94, op := Op.move (Operand.tmp 12), type := 3, pos := "outright.go:133", after := #[], guard := none }) (v := ?_) rfl (by kernel_rfl) (by kernel_rfl) (by kernel_rfl) (fun _ _ _ h => h) (Or.inl ⟨by rfl, ?_⟩) hS0 ?_
            rotate_left
            · intro X hX
              obtain ⟨x0, x1⟩ := hX
              go_simp
              try with_reducible rfl
            simp only [Act.put, List.setIfInBounds_toArray, List.set_cons_zero, List.set_cons_succ, Array.toArray_toList]
            refine wpAnyH_take (i := 9) (oi := { dst := some 95, op := Op.indexAddr 52 (Operand.tmp 93) (Operand.tmp 94), type := 0, pos := "outright.go:133", after := #[{ on := 7, ground := Ground.data }, { on := 8, ground := Ground.data }], guard := none }) (v := ?_) rfl (by kernel_rfl) (by kernel_rfl) (by kernel_rfl) (fun _ _ _ h => h) (Or.inl ⟨by rfl, ?_⟩) hS0 ?_
            rotate_left
            · intro X hX
              obtain ⟨x0, x1⟩ := hX
              go_simp
              try with_reducible rfl
            simp only [Act.put, List.setIfInBounds_toArray, List.set_cons_zero, List.set_cons_succ, Array.toArray_toList]
            refine wpAnyH_take (i := 10) (oi := { dst := some 96, op := Op.fieldAddr 58 (Operand.tmp 95) 1, type := 0, pos := "outright.go:133", after := #[{ on := 9, ground := Ground.data }], guard := none }) (v := ?_) rfl (by kernel_rfl) (by kernel_rfl) (by kernel_rfl) (fun _ _ _ h => h) (Or.inl ⟨by rfl, ?_⟩) hS0 ?_
            rotate_left
            · intro X hX
              obtain ⟨x0, x1⟩ := hX
              go_simp
              try with_reducible rfl
            simp only [Act.put, List.setIfInBounds_toArray, List.set_cons_zero, List.set_cons_succ, Array.toArray_toList]
            refine wpAnyH_take (i := 11) (oi := { dst := some 97, op := Op.load 3 (Operand.tmp 96), type := 3, pos := "outright.go:133", after := #[{ on := 10, ground := Ground.data }], guard := none }) (v := ?_) rfl (by kernel_rfl) (by kernel_rfl) (by kernel_rfl) (fun _ _ _ h => h) (Or.inl ⟨by rfl, ?_⟩) hS0 ?_
            rotate_left
            · intro X hX
              obtain ⟨x0, x1⟩ := hX
              go_simp
              try with_reducible rfl
            simp only [Act.put, List.setIfInBounds_toArray, List.set_cons_zero, List.set_cons_succ, Array.toArray_toList]
            refine wpAnyH_take (i := 12) (oi := { dst := some 98, op := Op.move (Operand.tmp 13), type := 3, pos := "outright.go:133", after := #[], guard := none }) (v := ?_) rfl (by kernel_rfl) (by kernel_rfl) (by kernel_rfl) (fun _ _ _ h => h) (Or.inl ⟨by rfl, ?_⟩) hS0 ?_
            rotate_left
            · intro X hX
              obtain ⟨x0, x1⟩ := hX
              go_simp
              try with_reducible rfl
            simp only [Act.put, List.setIfInBounds_toArray, List.set_cons_zero, List.set_cons_succ, Array.toArray_toList]
            refine wpAnyH_take (i := 13) (oi := { dst := some 99, op := Op.binOp BinOp.add 3 (Operand.tmp 97) (Operand.tmp 98) 3, type := 3, pos := "outright.go:133", after := #[{ on := 11, ground := Ground.data }, { on := 12, ground := Ground.data }], guard := none }) (v := ?_) rfl (by kernel_rfl) (by kernel_rfl) (by kernel_rfl) (fun _ _ _ h => h) (Or.inl ⟨by rfl, ?_⟩) hS0 ?_
            rotate_left
            · intro X hX
              obtain ⟨x0, x1⟩ := hX
              go_simp
              try with_reducible rfl
            simp only [Act.put, List.setIfInBounds_toArray, List.set_cons_zero, List.set_cons_succ, Array.toArray_toList]
            refine wpAnyH_take (i := 14) (oi := { dst := some 100, op := Op.move (Operand.tmp 10), type := 52, pos := "outright.go:133", after := #[], guard := none }) (v := ?_) rfl (by kernel_rfl) (by kernel_rfl) (by kernel_rfl) (fun _ _ _ h => h) (Or.inl ⟨by rfl, ?_⟩) hS0 ?_
            rotate_left
            · intro X hX
              obtain ⟨x0, x1⟩ := hX
              go_simp
              try with_reducible rfl
            simp only [Act.put, List.setIfInBounds_toArray, List.set_cons_zero, List.set_cons_succ, Array.toArray_toList]
            refine wpAnyH_take (i := 15) (oi := { dst := some 101, op := Op.move (Operand.tmp 12), type := 3, pos := "outright.go:133", after := #[], guard := none }) (v := ?_) rfl (by kernel_rfl) (by kernel_rfl) (by kernel_rfl) (fun _ _ _ h => h) (Or.inl ⟨by rfl, ?_⟩) hS0 ?_
            rotate_left
            · intro X hX
              obtain ⟨x0, x1⟩ := hX
              go_simp
              try with_reducible rfl
            simp only [Act.put, List.setIfInBounds_toArray, List.set_cons_zero, List.set_cons_succ, Array.toArray_toList]
            refine wpAnyH_take (i := 16) (oi := { dst := some 102, op := Op.indexAddr 52 (Operand.tmp 100) (Operand.tmp 101), type := 0, pos := "outright.go:133", after := #[{ on := 14, ground := Ground.data }, { on := 15, ground := Ground.data }], guard := none }) (v := ?_) rfl (by kernel_rfl) (by kernel_rfl) (by kernel_rfl) (fun _ _ _ h => h) (Or.inl ⟨by rfl, ?_⟩) hS0 ?_
            rotate_left
            · intro X hX
              obtain ⟨x0, x1⟩ := hX
              go_simp
              try with_reducible rfl
            simp only [Act.put, List.setIfInBounds_toArray, List.set_cons_zero, List.set_cons_succ, Array.toArray_toList]
            refine wpAnyH_take (i := 17) (oi := { dst := some 103, op := Op.fieldAddr 58 (Operand.tmp 102) 0, type := 0, pos := "outright.go:133", after := #[{ on := 16, ground := Ground.data }], guard := none }) (v := ?_) rfl (by kernel_rfl) (by kernel_rfl) (by kernel_rfl) (fun _ _ _ h => h) (Or.inl ⟨by rfl, ?_⟩) hS0 ?_
            rotate_left
            · intro X hX
              obtain ⟨x0, x1⟩ := hX
              go_simp
              try with_reducible rfl
            simp only [Act.put, List.setIfInBounds_toArray, List.set_cons_zero, List.set_cons_succ, Array.toArray_toList]
            refine wpAnyH_take (i := 18) (oi := { dst := some 104, op := Op.load 3 (Operand.tmp 103), type := 3, pos := "outright.go:133", after := #[{ on := 17, ground := Ground.data }], guard := none }) (v := ?_) rfl (by kernel_rfl) (by kernel_rfl) (by kernel_rfl) (fun _ _ _ h => h) (Or.inl ⟨by rfl, ?_⟩) hS0 ?_
            rotate_left
            · intro X hX
              obtain ⟨x0, x1⟩ := hX
              go_simp
              try with_reducible rfl
            simp only [Act.put, List.setIfInBounds_toArray, List.set_cons_zero, List.set_cons_succ, Array.toArray_toList]
            refine wpAnyH_take (i := 19) (oi := { dst := some 105, op := Op.binOp BinOp.sub 3 (Operand.tmp 104) (Operand.const (Value.int IntKind.i64 1)) 3, type := 3, pos := "outright.go:133", after := #[{ on := 18, ground := Ground.data }], guard := none }) (v := ?_) rfl (by kernel_rfl) (by kernel_rfl) (by kernel_rfl) (fun _ _ _ h => h) (Or.inl ⟨by rfl, ?_⟩) hS0 ?_
            rotate_left
            · intro X hX
              obtain ⟨x0, x1⟩ := hX
              go_simp
              try with_reducible rfl
            simp only [Act.put, List.setIfInBounds_toArray, List.set_cons_zero, List.set_cons_succ, Array.toArray_toList]
            refine wpAnyH_take (i := 20) (oi := { dst := some 106, op := Op.move (Operand.tmp 13), type := 3, pos := "outright.go:133", after := #[], guard := none }) (v := ?_) rfl (by kernel_rfl) (by kernel_rfl) (by kernel_rfl) (fun _ _ _ h => h) (Or.inl ⟨by rfl, ?_⟩) hS0 ?_
            rotate_left
            · intro X hX
              obtain ⟨x0, x1⟩ := hX
              go_simp
              try with_reducible rfl
            simp only [Act.put, List.setIfInBounds_toArray, List.set_cons_zero, List.set_cons_succ, Array.toArray_toList]
            refine wpAnyH_take (i := 21) (oi := { dst := some 107, op := Op.binOp BinOp.sub 3 (Operand.tmp 105) (Operand.tmp 106) 3, type := 3, pos := "outright.go:133", after := #[{ on := 19, ground := Ground.data }, { on := 20, ground := Ground.data }], guard := none }) (v := ?_) rfl (by kernel_rfl) (by kernel_rfl) (by kernel_rfl) (fun _ _ _ h => h) (Or.inl ⟨by rfl, ?_⟩) hS0 ?_
            rotate_left
            · intro X hX
              obtain ⟨x0, x1⟩ := hX
              go_simp
              try with_reducible rfl
            simp only [Act.put, List.setIfInBounds_toArray, List.set_cons_zero, List.set_cons_succ, Array.toArray_toList]
            refine wpAnyH_take (i := 22) (oi := { dst := some 108, op := Op.move (Operand.tmp 10), type := 52, pos := "outright.go:133", after := #[], guard := none }) (v := ?_) rfl (by kernel_rfl) (by kernel_rfl) (by kernel_rfl) (fun _ _ _ h => h) (Or.inl ⟨by rfl, ?_⟩) hS0 ?_
            rotate_left
            · intro X hX
              obtain ⟨x0, x1⟩ := hX
              go_simp
              try with_reducible rfl
            simp only [Act.put, List.setIfInBounds_toArray, List.set_cons_zero, List.set_cons_succ, Array.toArray_toList]
            refine wpAnyH_take (i := 23) (oi := { dst := some 109, op := Op.move (Operand.tmp 12), type := 3, pos := "outright.go:133", after := #[], guard := none }) (v := ?_) rfl (by kernel_rfl) (by kernel_rfl) (by kernel_rfl) (fun _ _ _ h => h) (Or.inl ⟨by rfl, ?_⟩) hS0 ?_
            rotate_left
            · intro X hX
              obtain ⟨x0, x1⟩ := hX
              go_simp
              try with_reducible rfl
            simp only [Act.put, List.setIfInBounds_toArray, List.set_cons_zero, List.set_cons_succ, Array.toArray_toList]
            refine wpAnyH_take (i := 24) (oi := { dst := some 110, op := Op.indexAddr 52 (Operand.tmp 108) (Operand.tmp 109), type := 0, pos := "outright.go:133", after := #[{ on := 22, ground := Ground.data }, { on := 23, ground := Ground.data }], guard := none }) (v := ?_) rfl (by kernel_rfl) (by kernel_rfl) (by kernel_rfl) (fun _ _ _ h => h) (Or.inl ⟨by rfl, ?_⟩) hS0 ?_
            rotate_left
            · intro X hX
              obtain ⟨x0, x1⟩ := hX
              go_simp
              try with_reducible rfl
            simp only [Act.put, List.setIfInBounds_toArray, List.set_cons_zero, List.set_cons_succ, Array.toArray_toList]
            refine wpAnyH_take (i := 25) (oi := { dst := some 111, op := Op.fieldAddr 58 (Operand.tmp 110) 1, type := 0, pos := "outright.go:133", after := #[{ on := 24, ground := Ground.data }], guard := none }) (v := ?_) rfl (by kernel_rfl) (by kernel_rfl) (by kernel_rfl) (fun _ _ _ h => h) (Or.inl ⟨by rfl, ?_⟩) hS0 ?_
            rotate_left
            · intro X hX
              obtain ⟨x0, x1⟩ := hX
              go_simp
              try with_reducible rfl
            simp only [Act.put, List.setIfInBounds_toArray, List.set_cons_zero, List.set_cons_succ, Array.toArray_toList]
            refine wpAnyH_take (i := 26) (oi := { dst := some 112, op := Op.load 3 (Operand.tmp 111), type := 3, pos := "outright.go:133", after := #[{ on := 25, ground := Ground.data }], guard := none }) (v := ?_) rfl (by kernel_rfl) (by kernel_rfl) (by kernel_rfl) (fun _ _ _ h => h) (Or.inl ⟨by rfl, ?_⟩) hS0 ?_
            rotate_left
            · intro X hX
              obtain ⟨x0, x1⟩ := hX
              go_simp
              try with_reducible rfl
            simp only [Act.put, List.setIfInBounds_toArray, List.set_cons_zero, List.set_cons_succ, Array.toArray_toList]
            refine wpAnyH_take (i := 27) (oi := { dst := some 113, op := Op.binOp BinOp.add 3 (Operand.tmp 112) (Operand.const (Value.int IntKind.i64 1)) 3, type := 3, pos := "outright.go:133", after := #[{ on := 26, ground := Ground.data }], guard := none }) (v := ?_) rfl (by kernel_rfl) (by kernel_rfl) (by kernel_rfl) (fun _ _ _ h => h) (Or.inl ⟨by rfl, ?_⟩) hS0 ?_
            rotate_left
            · intro X hX
              obtain ⟨x0, x1⟩ := hX
              go_simp
              try with_reducible rfl
            simp only [Act.put, List.setIfInBounds_toArray, List.set_cons_zero, List.set_cons_succ, Array.toArray_toList]
            refine wpAnyH_take (i := 28) (oi := { dst := some 114, op := Op.move (Operand.tmp 13), type := 3, pos := "outright.go:133", after := #[], guard := none }) (v := ?_) rfl (by kernel_rfl) (by kernel_rfl) (by kernel_rfl) (fun _ _ _ h => h) (Or.inl ⟨by rfl, ?_⟩) hS0 ?_
            rotate_left
            · intro X hX
              obtain ⟨x0, x1⟩ := hX
              go_simp
              try with_reducible rfl
            simp only [Act.put, List.setIfInBounds_toArray, List.set_cons_zero, List.set_cons_succ, Array.toArray_toList]
            refine wpAnyH_take (i := 29) (oi := { dst := some 115, op := Op.binOp BinOp.add 3 (Operand.tmp 113) (Operand.tmp 114) 3, type := 3, pos := "outright.go:133", after := #[{ on := 27, ground := Ground.data }, { on := 28, ground := Ground.data }], guard := none }) (v := ?_) rfl (by kernel_rfl) (by kernel_rfl) (by kernel_rfl) (fun _ _ _ h => h) (Or.inl ⟨by rfl, ?_⟩) hS0 ?_
            rotate_left
            · intro X hX
              obtain ⟨x0, x1⟩ := hX
              go_simp
              try with_reducible rfl
            simp only [Act.put, List.setIfInBounds_toArray, List.set_cons_zero, List.set_cons_succ, Array.toArray_toList]
            refine wpAnyH_take (i := 31) (oi := { dst := some 117, op := Op.move (Operand.tmp 16), type := 3, pos := "outright.go:133", after := #[], guard := none }) (v := ?_) rfl (by kernel_rfl) (by kernel_rfl) (by kernel_rfl) (fun _ _ _ h => h) (Or.inl ⟨by rfl, ?_⟩) hS0 ?_
            rotate_left
            · intro X hX
              obtain ⟨x0, x1⟩ := hX
              go_simp
              try with_reducible rfl
            simp only [Act.put, List.setIfInBounds_toArray, List.set_cons_zero, List.set_cons_succ, Array.toArray_toList]
            refine wpAnyH_ready (rs := [30]) (by kernel_rfl) (by simp) (AllReadyH.cons (o := { dst := some 116, op := Op.buildSlice 25 4 #[(0, Operand.tmp 92), (1, Operand.tmp 99), (2, Operand.tmp 107), (3, Operand.tmp 115)], type := 25, pos := "outright.go:133", after := #[{ on := 6, ground := Ground.data }, { on := 13, ground := Ground.data }, { on := 21, ground := Ground.data }, { on := 29, ground := Ground.data }], guard := none }) rfl (fun K hK => ?_) AllReadyH.nil)
            go_simp
            try simp only [s0, s1, s2, s3, s4, s5]
            have hb : Below wr.heap.size wr (wr.alloc (.cells #[.int .i64 R0, .int .i64 R1, .int .i64 R2, .int .i64 R3] 3)).drew := ((Below.refl _ _).alloc (Nat.le_refl _) _).drew
            have hnn : (wr.alloc (.cells #[.int .i64 R0, .int .i64 R1, .int .i64 R2, .int .i64 R3] 3)).drew.heap[wr.heap.size]? = some (.cells #[.int .i64 R0, .int .i64 R1, .int .i64 R2, .int .i64 R3] 3 (0, 0)) := Go.heap_alloc_new wr _
            obtain ⟨Bn, hBn⟩ : ∃ B, wr.heap.size = B := ⟨_, rfl⟩
            have HBY := Lib.hid (HBX.out.trans (hb.mono HBX.out.size))
            have m0 := cell_later hb g0
            have m1 := cell_later hb g1
            rw [hBn] at hnn ⊢
            clear hBn hb
            generalize (wr.alloc (.cells #[.int .i64 R0, .int .i64 R1, .int .i64 R2, .int .i64 R3] 3)).drew = y1 at HBY hnn m0 m1 ⊢
            refine hK.out _ _ (⟨m0, m1⟩) (fun hS1 => ?_)
            clear hS0 hK K
            have ck : y1.cell? ⟨Bn, 0, none⟩ = some (.int .i64 R0) := by simp [World.cell?, hnn]
            clear hnn
            refine wpAnyH_take (i := 32) (oi := { dst := some 118, op := Op.indexAddr 25 (Operand.tmp 116) (Operand.tmp 117), type := 0, pos := "outright.go:133", after := #[{ on := 30, ground := Ground.data }, { on := 31, ground := Ground.data }], guard := none }) (v := ?_) rfl (by kernel_rfl) (by kernel_rfl) (by kernel_rfl) (fun _ _ _ h => h) (Or.inl ⟨by rfl, ?_⟩) hS1 ?_
            rotate_left
            · intro X hX
              obtain ⟨x0, x1⟩ := hX
              go_simp
              try with_reducible rfl
            simp only [Act.put, List.setIfInBounds_toArray, List.set_cons_zero, List.set_cons_succ, Array.toArray_toList]
            refine wpAnyH_ready (rs := [33]) (by kernel_rfl) (by simp) (AllReadyH.cons (o := { dst := some 119, op := Op.load 3 (Operand.tmp 118), type := 3, pos := "outright.go:133", after := #[{ on := 32, ground := Ground.data }], guard := none }) rfl (fun K hK => ?_) AllReadyH.nil)
            go_simp
            refine hK.out _ _ (hS1) (fun hS2 => ?_)
            clear hS1 hK K
            refine wpAnyH_take (i := 34) (oi := { dst := some 17, op := Op.assign (Operand.tmp 119), type := 3, pos := "outright.go:133", after := #[{ on := 33, ground := Ground.data }, { on := 0, ground := Ground.phase }, { on := 1, ground := Ground.phase }, { on := 2, ground := Ground.phase }, { on := 3, ground := Ground.phase }, { on := 4, ground := Ground.phase }, { on := 5, ground := Ground.phase }, { on := 6, ground := Ground.phase }, { on := 7, ground := Ground.phase }, { on := 8, ground := Ground.phase }, { on := 9, ground := Ground.phase }, { on := 10, ground := Ground.phase }, { on := 11, ground := Ground.phase }, { on := 12, ground := Ground.phase }, { on := 13, ground := Ground.phase }, { on := 14, ground := Ground.phase }, { on := 15, ground := Ground.phase }, { on := 16, ground := Ground.phase }, { on := 17, ground := Ground.phase }, { on := 18, ground := Ground.phase }, { on := 19, ground := Ground.phase }, { on := 20, ground := Ground.phase }, { on := 21, ground := Ground.phase }, { on := 22, ground := Ground.phase }, { on := 23, ground := Ground.phase }, { on := 24, ground := Ground.phase }, { on := 25, ground := Ground.phase }, { on := 26, ground := Ground.phase }, { on := 27, ground := Ground.phase }, { on := 28, ground := Ground.phase }, { on := 29, ground := Ground.phase }, { on := 30, ground := Ground.phase }, { on := 31, ground := Ground.phase }, { on := 32, ground := Ground.phase }, { on := 33, ground := Ground.phase }], guard := none }) (v := ?_) rfl (by kernel_rfl) (by kernel_rfl) (by kernel_rfl) (fun _ _ _ h => h) (Or.inl ⟨by rfl, ?_⟩) hS2 ?_
            rotate_left
            · intro X hX
              obtain ⟨x0, x1⟩ := hX
              go_simp
              try with_reducible rfl
            simp only [Act.put, List.setIfInBounds_toArray, List.set_cons_zero, List.set_cons_succ, Array.toArray_toList]
            refine wpAnyH_done (by kernel_rfl) ?_ _
            clear hS2
            clear ck g0 g1
            have hcin := Lib.hid (refIn_any R0 0 40 y1)
            rw [HIN.out] at hcin
            go_wp2_with fail
            refine hcin.out.mono ?_
            rintro e' y2 ⟨rfl, rfl⟩
            clear hcin
            have hib := inB_true.1 HIN.out
            have hsv := Lib.hid (ends_lo HBE.out HO.out ⟨e0.1, by omega⟩ hi (by rw [HPL.out, HQ.out, HR0.out]) hib.1 hib.2)
            obtain ⟨b0, b1, b2⟩ := blk3 ((HBY.out.block Bi (Array.getElem?_eq_some_iff.1 NBi5.out).1).trans NBi5.out)
            have hra := Lib.hid (readAs_any gA 0 cap i T C R0 l y1 (FA5.out.keep HBY.out (Nat.le_refl _)) hi (by omega))
            clear hib
            go_wp2_with fail
            clear m0 m1
            refine hra.out.mono ?_
            rintro e' y2 ⟨gx, cx, rfl, hax, hb⟩
            have HB2 := Lib.hid (HBY.out.trans (hb.mono HBY.out.size))
            have hnt := Lib.hid (net_n (some ⟨gx, 0, none⟩) l.length cx T C _ y2 (rd_len hi) hax (by omega))
            clear hra hb hax b0 b1 b2 HBY
            go_wp2_with fail
            refine hnt.out.mono ?_
            rintro e' y3 ⟨A4, c4, rfl, ha4, hb⟩
            have HB3 := Lib.hid (HB2.out.trans (hb.mono HB2.out.size))
            clear hnt hb HB2
            have hsh := Lib.hid (show_yes (cap := c4) (T := T) (C := C) (err := e) (by omega) (rd_len hi) ha4 hsv.out)
            clear ha4 hsv
            go_wp2_with fail
            refine hsh.out.mono ?_
            rintro e' y4 ⟨Av, cv4, xs4, rfl, _, _, _, hb⟩
            have HB4 := Lib.hid (HB3.out.trans (hb.mono HB3.out.size))
            clear hsh hb HB3
            go_wp2_with fail
            go_roundw
            case rel => exact ⟨1, by omega, by go_num, HB4.out⟩
            case measure => simp [intOf]
        · cases hin : inB R1 0 40 with
          | false =>
            have HIN := Lib.hid hin
            clear hin hlt hc
            go_wp2_with fail
            refine wp_region_held_drew (S := fun X => X.cell? ⟨bb, bo + i * 2, none⟩ = some (.int .i64 p) ∧ X.cell? ⟨bb, bo + i * 2 + 1, none⟩ = some (.int .i64 r)) (by kernel_rfl) (⟨g0, g1⟩) (fun hS0 => ?_)
            refine wpAnyH_take (i := 0) (oi := { dst := some 86, op := Op.move (Operand.tmp 10), type := 52, pos := "outright.go:133", after := #[], guard := none }) (v := ?_) rfl (by kernel_rfl) (by kernel_rfl) (by kernel_rfl) (fun _ _ _ h => h) (Or.inl ⟨by rfl, ?_⟩) hS0 ?_
            rotate_left
            · intro X hX
              obtain ⟨x0, x1⟩ := hX
              go_simp
              try with_reducible rfl
            simp only [Act.put, List.setIfInBounds_toArray, List.set_cons_zero, List.set_cons_succ, Array.toArray_toList]
            refine wpAnyH_take (i := 1) (oi := { dst := some 87, op := Op.move (Operand.tmp 12), type := 3, pos := "outright.go:133", after := #[], guard := none }) (v := ?_) rfl (by kernel_rfl) (by kernel_rfl) (by kernel_rfl) (fun _ _ _ h => h) (Or.inl ⟨by rfl, ?_⟩) hS0 ?_
            rotate_left
            · intro X hX
              obtain ⟨x0, x1⟩ := hX
              go_simp
              try with_reducible rfl
            simp only [Act.put, List.setIfInBounds_toArray, List.set_cons_zero, List.set_cons_succ, Array.toArray_toList]
            refine wpAnyH_take (i := 2) (oi := { dst := some 88, op := Op.indexAddr 52 (Operand.tmp 86) (Operand.tmp 87), type := 0, pos := "outright.go:133", after := #[{ on := 0, ground := Ground.data }, { on := 1, ground := Ground.data }], guard := none }) (v := ?_) rfl (by kernel_rfl) (by kernel_rfl) (by kernel_rfl) (fun _ _ _ h => h) (Or.inl ⟨by rfl, ?_⟩) hS0 ?_
            rotate_left
            · intro X hX
              obtain ⟨x0, x1⟩ := hX
              go_simp
              try with_reducible rfl
            simp only [Act.put, List.setIfInBounds_toArray, List.set_cons_zero, List.set_cons_succ, Array.toArray_toList]
            refine wpAnyH_take (i := 3) (oi := { dst := some 89, op := Op.fieldAddr 58 (Operand.tmp 88) 0, type := 0, pos := "outright.go:133", after := #[{ on := 2, ground := Ground.data }], guard := none }) (v := ?_) rfl (by kernel_rfl) (by kernel_rfl) (by kernel_rfl) (fun _ _ _ h => h) (Or.inl ⟨by rfl, ?_⟩) hS0 ?_
            rotate_left
            · intro X hX
              obtain ⟨x0, x1⟩ := hX
              go_simp
              try with_reducible rfl
            simp only [Act.put, List.setIfInBounds_toArray, List.set_cons_zero, List.set_cons_succ, Array.toArray_toList]
            refine wpAnyH_take (i := 4) (oi := { dst := some 90, op := Op.load 3 (Operand.tmp 89), type := 3, pos := "outright.go:133", after := #[{ on := 3, ground := Ground.data }], guard := none }) (v := ?_) rfl (by kernel_rfl) (by kernel_rfl) (by kernel_rfl) (fun _ _ _ h => h) (Or.inl ⟨by rfl, ?_⟩) hS0 ?_
            rotate_left
            · intro X hX
              obtain ⟨x0, x1⟩ := hX
              go_simp
              try with_reducible rfl
            simp only [Act.put, List.setIfInBounds_toArray, List.set_cons_zero, List.set_cons_succ, Array.toArray_toList]
            refine wpAnyH_take (i := 5) (oi := { dst := some 91, op := Op.move (Operand.tmp 13), type := 3, pos := "outright.go:133", after := #[], guard := none }) (v := ?_) rfl (by kernel_rfl) (by kernel_rfl) (by kernel_rfl) (fun _ _ _ h => h) (Or.inl ⟨by rfl, ?_⟩) hS0 ?_
            rotate_left
            · intro X hX
              obtain ⟨x0, x1⟩ := hX
              go_simp
              try with_reducible rfl
            simp only [Act.put, List.setIfInBounds_toArray, List.set_cons_zero, List.set_cons_succ, Array.toArray_toList]
            refine wpAnyH_take (i := 6) (oi := { dst := some 92, op := Op.binOp BinOp.sub 3 (Operand.tmp 90) (Operand.tmp 91) 3, type := 3, pos := "outright.go:133", after := #[{ on := 4, ground := Ground.data }, { on := 5, ground := Ground.data }], guard := none }) (v := ?_) rfl (by kernel_rfl) (by kernel_rfl) (by kernel_rfl) (fun _ _ _ h => h) (Or.inl ⟨by rfl, ?_⟩) hS0 ?_
            rotate_left
            · intro X hX
              obtain ⟨x0, x1⟩ := hX
              go_simp
              try with_reducible rfl
            simp only [Act.put, List.setIfInBounds_toArray, List.set_cons_zero, List.set_cons_succ, Array.toArray_toList]
            refine wpAnyH_take (i := 7) (oi := { dst := some 93, op := Op.move (Operand.tmp 10), type := 52, pos := "outright.go:133", after := #[], guard := none }) (v := ?_) rfl (by kernel_rfl) (by kernel_rfl) (by kernel_rfl) (fun _ _ _ h => h) (Or.inl ⟨by rfl, ?_⟩) hS0 ?_
            rotate_left
            · intro X hX
              obtain ⟨x0, x1⟩ := hX
              go_simp
              try with_reducible rfl
            simp only [Act.put, List.setIfInBounds_toArray, List.set_cons_zero, List.set_cons_succ, Array.toArray_toList]
            refine wpAnyH_take (i := 8) (oi := { dst := some 94, op := Op.move (Operand.tmp 12), type := 3, pos := "outright.go:133", after := #[], guard := none }) (v := ?_) rfl (by kernel_rfl) (by kernel_rfl) (by kernel_rfl) (fun _ _ _ h => h) (Or.inl ⟨by rfl, ?_⟩) hS0 ?_
            rotate_left
            · intro X hX
              obtain ⟨x0, x1⟩ := hX
              go_simp
              try with_reducible rfl
            simp only [Act.put, List.setIfInBounds_toArray, List.set_cons_zero, List.set_cons_succ, Array.toArray_toList]
            refine wpAnyH_take (i := 9) (oi := { dst := some 95, op := Op.indexAddr 52 (Operand.tmp 93) (Operand.tmp 94), type := 0, pos := "outright.go:133", after := #[{ on := 7, ground := Ground.data }, { on := 8, ground := Ground.data }], guard := none }) (v := ?_) rfl (by kernel_rfl) (by kernel_rfl) (by kernel_rfl) (fun _ _ _ h => h) (Or.inl ⟨by rfl, ?_⟩) hS0 ?_
            rotate_left
            · intro X hX
              obtain ⟨x0, x1⟩ := hX
              go_simp
              try with_reducible rfl
            simp only [Act.put, List.setIfInBounds_toArray, List.set_cons_zero, List.set_cons_succ, Array.toArray_toList]
            refine wpAnyH_take (i := 10) (oi := { dst := some 96, op := Op.fieldAddr 58 (Operand.tmp 95) 1, type := 0, pos := "outright.go:133", after := #[{ on := 9, ground := Ground.data }], guard := none }) (v := ?_) rfl (by kernel_rfl) (by kernel_rfl) (by kernel_rfl) (fun _ _ _ h => h) (Or.inl ⟨by rfl, ?_⟩) hS0 ?_
            rotate_left
            · intro X hX
              obtain ⟨x0, x1⟩ := hX
              go_simp
              try with_reducible rfl
            simp only [Act.put, List.setIfInBounds_toArray, List.set_cons_zero, List.set_cons_succ, Array.toArray_toList]
            refine wpAnyH_take (i := 11) (oi := { dst := some 97, op := Op.load 3 (Operand.tmp 96), type := 3, pos := "outright.go:133", after := #[{ on := 10, ground := Ground.data }], guard := none }) (v := ?_) rfl (by kernel_rfl) (by kernel_rfl) (by kernel_rfl) (fun _ _ _ h => h) (Or.inl ⟨by rfl, ?_⟩) hS0 ?_
            rotate_left
            · intro X hX
              obtain ⟨x0, x1⟩ := hX
              go_simp
              try with_reducible rfl
            simp only [Act.put, List.setIfInBounds_toArray, List.set_cons_zero, List.set_cons_succ, Array.toArray_toList]
            refine wpAnyH_take (i := 12) (oi := { dst := some 98, op := Op.move (Operand.tmp 13), type := 3, pos := "outright.go:133", after := #[], guard := none }) (v := ?_) rfl (by kernel_rfl) (by kernel_rfl) (by kernel_rfl) (fun _ _ _ h => h) (Or.inl ⟨by rfl, ?_⟩) hS0 ?_
            rotate_left
            · intro X hX
              obtain ⟨x0, x1⟩ := hX
              go_simp
              try with_reducible rfl
            simp only [Act.put, List.setIfInBounds_toArray, List.set_cons_zero, List.set_cons_succ, Array.toArray_toList]
            refine wpAnyH_take (i := 13) (oi := { dst := some 99, op := Op.binOp BinOp.add 3 (Operand.tmp 97) (Operand.tmp 98) 3, type := 3, pos := "outright.go:133", after := #[{ on := 11, ground := Ground.data }, { on := 12, ground := Ground.data }], guard := none }) (v := ?_) rfl (by kernel_rfl) (by kernel_rfl) (by kernel_rfl) (fun _ _ _ h => h) (Or.inl ⟨by rfl, ?_⟩) hS0 ?_
            rotate_left
            · intro X hX
              obtain ⟨x0, x1⟩ := hX
              go_simp
              try with_reducible rfl
            simp only [Act.put, List.setIfInBounds_toArray, List.set_cons_zero, List.set_cons_succ, Array.toArray_toList]
            refine wpAnyH_take (i := 14) (oi := { dst := some 100, op := Op.move (Operand.tmp 10), type := 52, pos := "outright.go:133", after := #[], guard := none }) (v := ?_) rfl (by kernel_rfl) (by kernel_rfl) (by kernel_rfl) (fun _ _ _ h => h) (Or.inl ⟨by rfl, ?_⟩) hS0 ?_
            rotate_left
            · intro X hX
              obtain ⟨x0, x1⟩ := hX
              go_simp
              try with_reducible rfl
            simp only [Act.put, List.setIfInBounds_toArray, List.set_cons_zero, List.set_cons_succ, Array.toArray_toList]
            refine wpAnyH_take (i := 15) (oi := { dst := some 101, op := Op.move (Operand.tmp 12), type := 3, pos := "outright.go:133", after := #[], guard := none }) (v := ?_) rfl (by kernel_rfl) (by kernel_rfl) (by kernel_rfl) (fun _ _ _ h => h) (Or.inl ⟨by rfl, ?_⟩) hS0 ?_
            rotate_left
            · intro X hX
              obtain ⟨x0, x1⟩ := hX
              go_simp
              try with_reducible rfl
            simp only [Act.put, List.setIfInBounds_toArray, List.set_cons_zero, List.set_cons_succ, Array.toArray_toList]
            refine wpAnyH_take (i := 16) (oi := { dst := some 102, op := Op.indexAddr 52 (Operand.tmp 100) (Operand.tmp 101), type := 0, pos := "outright.go:133", after := #[{ on := 14, ground := Ground.data }, { on := 15, ground := Ground.data }], guard := none }) (v := ?_) rfl (by kernel_rfl) (by kernel_rfl) (by kernel_rfl) (fun _ _ _ h => h) (Or.inl ⟨by rfl, ?_⟩) hS0 ?_
            rotate_left
            · intro X hX
              obtain ⟨x0, x1⟩ := hX
              go_simp
              try with_reducible rfl
            simp only [Act.put, List.setIfInBounds_toArray, List.set_cons_zero, List.set_cons_succ, Array.toArray_toList]
            refine wpAnyH_take (i := 17) (oi := { dst := some 103, op := Op.fieldAddr 58 (Operand.tmp 102) 0, type := 0, pos := "outright.go:133", after := #[{ on := 16, ground := Ground.data }], guard := none }) (v := ?_) rfl (by kernel_rfl) (by kernel_rfl) (by kernel_rfl) (fun _ _ _ h => h) (Or.inl ⟨by rfl, ?_⟩) hS0 ?_
            rotate_left
            · intro X hX
              obtain ⟨x0, x1⟩ := hX
              go_simp
              try with_reducible rfl
            simp only [Act.put, List.setIfInBounds_toArray, List.set_cons_zero, List.set_cons_succ, Array.toArray_toList]
            refine wpAnyH_take (i := 18) (oi := { dst := some 104, op := Op.load 3 (Operand.tmp 103), type := 3, pos := "outright.go:133", after := #[{ on := 17, ground := Ground.data }], guard := none }) (v := ?_) rfl (by kernel_rfl) (by kernel_rfl) (by kernel_rfl) (fun _ _ _ h => h) (Or.inl ⟨by rfl, ?_⟩) hS0 ?_
            rotate_left
            · intro X hX
              obtain ⟨x0, x1⟩ := hX
              go_simp
              try with_reducible rfl
            simp only [Act.put, List.setIfInBounds_toArray, List.set_cons_zero, List.set_cons_succ, Array.toArray_toList]
            refine wpAnyH_take (i := 19) (oi := { dst := some 105, op := Op.binOp BinOp.sub 3 (Operand.tmp 104) (Operand.const (Value.int IntKind.i64 1)) 3, type := 3, pos := "outright.go:133", after := #[{ on := 18, ground := Ground.data }], guard := none }) (v := ?_) rfl (by kernel_rfl) (by kernel_rfl) (by kernel_rfl) (fun _ _ _ h => h) (Or.inl ⟨by rfl, ?_⟩) hS0 ?_
            rotate_left
            · intro X hX
              obtain ⟨x0, x1⟩ := hX
              go_simp
              try with_reducible rfl
            simp only [Act.put, List.setIfInBounds_toArray, List.set_cons_zero, List.set_cons_succ, Array.toArray_toList]
            refine wpAnyH_take (i := 20) (oi := { dst := some 106, op := Op.move (Operand.tmp 13), type := 3, pos := "outright.go:133", after := #[], guard := none }) (v := ?_) rfl (by kernel_rfl) (by kernel_rfl) (by kernel_rfl) (fun _ _ _ h => h) (Or.inl ⟨by rfl, ?_⟩) hS0 ?_
            rotate_left
            · intro X hX
              obtain ⟨x0, x1⟩ := hX
              go_simp
              try with_reducible rfl
            simp only [Act.put, List.setIfInBounds_toArray, List.set_cons_zero, List.set_cons_succ, Array.toArray_toList]
            refine wpAnyH_take (i := 21) (oi := { dst := some 107, op := Op.binOp BinOp.sub 3 (Operand.tmp 105) (Operand.tmp 106) 3, type := 3, pos := "outright.go:133", after := #[{ on := 19, ground := Ground.data }, { on := 20, ground := Ground.data }], guard := none }) (v := ?_) rfl (by kernel_rfl) (by kernel_rfl) (by kernel_rfl) (fun _ _ _ h => h) (Or.inl ⟨by rfl, ?_⟩) hS0 ?_
            rotate_left
            · intro X hX
              obtain ⟨x0, x1⟩ := hX
              go_simp
              try with_reducible rfl
            simp only [Act.put, List.setIfInBounds_toArray, List.set_cons_zero, List.set_cons_succ, Array.toArray_toList]
            refine wpAnyH_take (i := 22) (oi := { dst := some 108, op := Op.move (Operand.tmp 10), type := 52, pos := "outright.go:133", after := #[], guard := none }) (v := ?_) rfl (by kernel_rfl) (by kernel_rfl) (by kernel_rfl) (fun _ _ _ h => h) (Or.inl ⟨by rfl, ?_⟩) hS0 ?_
            rotate_left
            · intro X hX
              obtain ⟨x0, x1⟩ := hX
              go_simp
              try with_reducible rfl
            simp only [Act.put, List.setIfInBounds_toArray, List.set_cons_zero, List.set_cons_succ, Array.toArray_toList]
            refine wpAnyH_take (i := 23) (oi := { dst := some 109, op := Op.move (Operand.tmp 12), type := 3, pos := "outright.go:133", after := #[], guard := none }) (v := ?_) rfl (by kernel_rfl) (by kernel_rfl) (by kernel_rfl) (fun _ _ _ h => h) (Or.inl ⟨by rfl, ?_⟩) hS0 ?_
            rotate_left
            · intro X hX
              obtain ⟨x0, x1⟩ := hX
              go_simp
              try with_reducible rfl
            simp only [Act.put, List.setIfInBounds_toArray, List.set_cons_zero, List.set_cons_succ, Array.toArray_toList]
            refine wpAnyH_take (i := 24) (oi := { dst := some 110, op := Op.indexAddr 52 (Operand.tmp 108) (Operand.tmp 109), type := 0, pos := "outright.go:133", after := #[{ on := 22, ground := Ground.data }, { on := 23, ground := Ground.data }], guard := none }) (v := ?_) rfl (by kernel_rfl) (by kernel_rfl) (by kernel_rfl) (fun _ _ _ h => h) (Or.inl ⟨by rfl, ?_⟩) hS0 ?_
            rotate_left
            · intro X hX
              obtain ⟨x0, x1⟩ := hX
              go_simp
              try with_reducible rfl
            simp only [Act.put, List.setIfInBounds_toArray, List.set_cons_zero, List.set_cons_succ, Array.toArray_toList]
            refine wpAnyH_take (i := 25) (oi := { dst := some 111, op := Op.fieldAddr 58 (Operand.tmp 110) 1, type := 0, pos := "outright.go:133", after := #[{ on := 24, ground := Ground.data }], guard := none }) (v := ?_) rfl (by kernel_rfl) (by kernel_rfl) (by kernel_rfl) (fun _ _ _ h => h) (Or.inl ⟨by rfl, ?_⟩) hS0 ?_
            rotate_left
            · intro X hX
              obtain ⟨x0, x1⟩ := hX
              go_simp
              try with_reducible rfl
            simp only [Act.put, List.setIfInBounds_toArray, List.set_cons_zero, List.set_cons_succ, Array.toArray_toList]
            refine wpAnyH_take (i := 26) (oi := { dst := some 112, op := Op.load 3 (Operand.tmp 111), type := 3, pos := "outright.go:133", after := #[{ on := 25, ground := Ground.data }], guard := none }) (v := ?_) rfl (by kernel_rfl) (by kernel_rfl) (by kernel_rfl) (fun _ _ _ h => h) (Or.inl ⟨by rfl, ?_⟩) hS0 ?_
            rotate_left
            · intro X hX
              obtain ⟨x0, x1⟩ := hX
              go_simp
              try with_reducible rfl
            simp only [Act.put, List.setIfInBounds_toArray, List.set_cons_zero, List.set_cons_succ, Array.toArray_toList]
            refine wpAnyH_take (i := 27) (oi := { dst := some 113, op := Op.binOp BinOp.add 3 (Operand.tmp 112) (Operand.const (Value.int IntKind.i64 1)) 3, type := 3, pos := "outright.go:133", after := #[{ on := 26, ground := Ground.data }], guard := none }) (v := ?_) rfl (by kernel_rfl) (by kernel_rfl) (by kernel_rfl) (fun _ _ _ h => h) (Or.inl ⟨by rfl, ?_⟩) hS0 ?_
            rotate_left
            · intro X hX
              obtain ⟨x0, x1⟩ := hX
              go_simp
              try with_reducible rfl
            simp only [Act.put, List.setIfInBounds_toArray, List.set_cons_zero, List.set_cons_succ, Array.toArray_toList]
            refine wpAnyH_take (i := 28) (oi := { dst := some 114, op := Op.move (Operand.tmp 13), type := 3, pos := "outright.go:133", after := #[], guard := none }) (v := ?_) rfl (by kernel_rfl) (by kernel_rfl) (by kernel_rfl) (fun _ _ _ h => h) (Or.inl ⟨by rfl, ?_⟩) hS0 ?_
            rotate_left
            · intro X hX
              obtain ⟨x0, x1⟩ := hX
              go_simp
              try with_reducible rfl
            simp only [Act.put, List.setIfInBounds_toArray, List.set_cons_zero, List.set_cons_succ, Array.toArray_toList]
            refine wpAnyH_take (i := 29) (oi := { dst := some 115, op := Op.binOp BinOp.add 3 (Operand.tmp 113) (Operand.tmp 114) 3, type := 3, pos := "outright.go:133", after := #[{ on := 27, ground := Ground.data }, { on := 28, ground := Ground.data }], guard := none }) (v := ?_) rfl (by kernel_rfl) (by kernel_rfl) (by kernel_rfl) (fun _ _ _ h => h) (Or.inl ⟨by rfl, ?_⟩) hS0 ?_
            rotate_left
            · intro X hX
              obtain ⟨x0, x1⟩ := hX
              go_simp
              try with_reducible rfl
            simp only [Act.put, List.setIfInBounds_toArray, List.set_cons_zero, List.set_cons_succ, Array.toArray_toList]
            refine wpAnyH_take (i := 31) (oi := { dst := some 117, op := Op.move (Operand.tmp 16), type := 3, pos := "outright.go:133", after := #[], guard := none }) (v := ?_) rfl (by kernel_rfl) (by kernel_rfl) (by kernel_rfl) (fun _ _ _ h => h) (Or.inl ⟨by rfl, ?_⟩) hS0 ?_
            rotate_left
            · intro X hX
              obtain ⟨x0, x1⟩ := hX
              go_simp
              try with_reducible rfl
            simp only [Act.put, List.setIfInBounds_toArray, List.set_cons_zero, List.set_cons_succ, Array.toArray_toList]
            refine wpAnyH_ready (rs := [30]) (by kernel_rfl) (by simp) (AllReadyH.cons (o := { dst := some 116, op := Op.buildSlice 25 4 #[(0, Operand.tmp 92), (1, Operand.tmp 99), (2, Operand.tmp 107), (3, Operand.tmp 115)], type := 25, pos := "outright.go:133", after := #[{ on := 6, ground := Ground.data }, { on := 13, ground := Ground.data }, { on := 21, ground := Ground.data }, { on := 29, ground := Ground.data }], guard := none }) rfl (fun K hK => ?_) AllReadyH.nil)
            go_simp
            try simp only [s0, s1, s2, s3, s4, s5]
            have hb : Below wr.heap.size wr (wr.alloc (.cells #[.int .i64 R0, .int .i64 R1, .int .i64 R2, .int .i64 R3] 3)).drew := ((Below.refl _ _).alloc (Nat.le_refl _) _).drew
            have hnn : (wr.alloc (.cells #[.int .i64 R0, .int .i64 R1, .int .i64 R2, .int .i64 R3] 3)).drew.heap[wr.heap.size]? = some (.cells #[.int .i64 R0, .int .i64 R1, .int .i64 R2, .int .i64 R3] 3 (0, 0)) := Go.heap_alloc_new wr _
            obtain ⟨Bn, hBn⟩ : ∃ B, wr.heap.size = B := ⟨_, rfl⟩
            have HBY := Lib.hid (HBX.out.trans (hb.mono HBX.out.size))
            have m0 := cell_later hb g0
            have m1 := cell_later hb g1
            rw [hBn] at hnn ⊢
            clear hBn hb
            generalize (wr.alloc (.cells #[.int .i64 R0, .int .i64 R1, .int .i64 R2, .int .i64 R3] 3)).drew = y1 at HBY hnn m0 m1 ⊢
            refine hK.out _ _ (⟨m0, m1⟩) (fun hS1 => ?_)
            clear hS0 hK K
            have ck : y1.cell? ⟨Bn, 1, none⟩ = some (.int .i64 R1) := by simp [World.cell?, hnn]
            clear hnn
            refine wpAnyH_take (i := 32) (oi := { dst := some 118, op := Op.indexAddr 25 (Operand.tmp 116) (Operand.tmp 117), type := 0, pos := "outright.go:133", after := #[{ on := 30, ground := Ground.data }, { on := 31, ground := Ground.data }], guard := none }) (v := ?_) rfl (by kernel_rfl) (by kernel_rfl) (by kernel_rfl) (fun _ _ _ h => h) (Or.inl ⟨by rfl, ?_⟩) hS1 ?_
            rotate_left
            · intro X hX
              obtain ⟨x0, x1⟩ := hX
              go_simp
              try with_reducible rfl
            simp only [Act.put, List.setIfInBounds_toArray, List.set_cons_zero, List.set_cons_succ, Array.toArray_toList]
            refine wpAnyH_ready (rs := [33]) (by kernel_rfl) (by simp) (AllReadyH.cons (o := { dst := some 119, op := Op.load 3 (Operand.tmp 118), type := 3, pos := "outright.go:133", after := #[{ on := 32, ground := Ground.data }], guard := none }) rfl (fun K hK => ?_) AllReadyH.nil)
            go_simp
            refine hK.out _ _ (hS1) (fun hS2 => ?_)
            clear hS1 hK K
            refine wpAnyH_take (i := 34) (oi := { dst := some 17, op := Op.assign (Operand.tmp 119), type := 3, pos := "outright.go:133", after := #[{ on := 33, ground := Ground.data }, { on := 0, ground := Ground.phase }, { on := 1, ground := Ground.phase }, { on := 2, ground := Ground.phase }, { on := 3, ground := Ground.phase }, { on := 4, ground := Ground.phase }, { on := 5, ground := Ground.phase }, { on := 6, ground := Ground.phase }, { on := 7, ground := Ground.phase }, { on := 8, ground := Ground.phase }, { on := 9, ground := Ground.phase }, { on := 10, ground := Ground.phase }, { on := 11, ground := Ground.phase }, { on := 12, ground := Ground.phase }, { on := 13, ground := Ground.phase }, { on := 14, ground := Ground.phase }, { on := 15, ground := Ground.phase }, { on := 16, ground := Ground.phase }, { on := 17, ground := Ground.phase }, { on := 18, ground := Ground.phase }, { on := 19, ground := Ground.phase }, { on := 20, ground := Ground.phase }, { on := 21, ground := Ground.phase }, { on := 22, ground := Ground.phase }, { on := 23, ground := Ground.phase }, { on := 24, ground := Ground.phase }, { on := 25, ground := Ground.phase }, { on := 26, ground := Ground.phase }, { on := 27, ground := Ground.phase }, { on := 28, ground := Ground.phase }, { on := 29, ground := Ground.phase }, { on := 30, ground := Ground.phase }, { on := 31, ground := Ground.phase }, { on := 32, ground := Ground.phase }, { on := 33, ground := Ground.phase }], guard := none }) (v := ?_) rfl (by kernel_rfl) (by kernel_rfl) (by kernel_rfl) (fun _ _ _ h => h) (Or.inl ⟨by rfl, ?_⟩) hS2 ?_
            rotate_left
            · intro X hX
              obtain ⟨x0, x1⟩ := hX
              go_simp
              try with_reducible rfl
            simp only [Act.put, List.setIfInBounds_toArray, List.set_cons_zero, List.set_cons_succ, Array.toArray_toList]
            refine wpAnyH_done (by kernel_rfl) ?_ _
            clear hS2
            clear ck g0 g1
            have hcin := Lib.hid (refIn_any R1 0 40 y1)
            rw [HIN.out] at hcin
            go_wp2_with fail
            refine hcin.out.mono ?_
            rintro e' y2 ⟨rfl, rfl⟩
            clear hcin
            go_wp2_with fail
            go_roundw
            case rel => exact ⟨2, by omega, by go_num, HBY.out⟩
            case measure => simp [intOf]
          | true =>
            have HIN := Lib.hid hin
            clear hin hlt hc
            go_wp2_with fail
            refine wp_region_held_drew (S := fun X => X.cell? ⟨bb, bo + i * 2, none⟩ = some (.int .i64 p) ∧ X.cell? ⟨bb, bo + i * 2 + 1, none⟩ = some (.int .i64 r)) (by kernel_rfl) (⟨g0, g1⟩) (fun hS0 => ?_)
            refine wpAnyH_take (i := 0) (oi := { dst := some 86, op := Op.move (Operand.tmp 10), type := 52, pos := "outright.go:133", after := #[], guard := none }) (v := ?_) rfl (by kernel_rfl) (by kernel_rfl) (by kernel_rfl) (fun _ _ _ h => h) (Or.inl ⟨by rfl, ?_⟩) hS0 ?_
            rotate_left
            · intro X hX
              obtain ⟨x0, x1⟩ := hX
              go_simp
              try with_reducible rfl
            simp only [Act.put, List.setIfInBounds_toArray, List.set_cons_zero, List.set_cons_succ, Array.toArray_toList]
            refine wpAnyH_take (i := 1) (oi := { dst := some 87, op := Op.move (Operand.tmp 12), type := 3, pos := "outright.go:133", after := #[], guard := none }) (v := ?_) rfl (by kernel_rfl) (by kernel_rfl) (by kernel_rfl) (fun _ _ _ h => h) (Or.inl ⟨by rfl, ?_⟩) hS0 ?_
            rotate_left
            · intro X hX
              obtain ⟨x0, x1⟩ := hX
              go_simp
              try with_reducible rfl
            simp only [Act.put, List.setIfInBounds_toArray, List.set_cons_zero, List.set_cons_succ, Array.toArray_toList]
            refine wpAnyH_take (i := 2) (oi := { dst := some 88, op := Op.indexAddr 52 (Operand.tmp 86) (Operand.tmp 87), type := 0, pos := "outright.go:133", after := #[{ on := 0, ground := Ground.data }, { on := 1, ground := Ground.data }], guard := none }) (v := ?_) rfl (by kernel_rfl) (by kernel_rfl) (by kernel_rfl) (fun _ _ _ h => h) (Or.inl ⟨by rfl, ?_⟩) hS0 ?_
            rotate_left
            · intro X hX
              obtain ⟨x0, x1⟩ := hX
              go_simp
              try with_reducible rfl
            simp only [Act.put, List.setIfInBounds_toArray, List.set_cons_zero, List.set_cons_succ, Array.toArray_toList]
            refine wpAnyH_take (i := 3) (oi := { dst := some 89, op := Op.fieldAddr 58 (Operand.tmp 88) 0, type := 0, pos := "outright.go:133", after := #[{ on := 2, ground := Ground.data }], guard := none }) (v := ?_) rfl (by kernel_rfl) (by kernel_rfl) (by kernel_rfl) (fun _ _ _ h => h) (Or.inl ⟨by rfl, ?_⟩) hS0 ?_
            rotate_left
            · intro X hX
              obtain ⟨x0, x1⟩ := hX
              go_simp
              try with_reducible rfl
            simp only [Act.put, List.setIfInBounds_toArray, List.set_cons_zero, List.set_cons_succ, Array.toArray_toList]
            refine wpAnyH_take (i := 4) (oi := { dst := some 90, op := Op.load 3 (Operand.tmp 89), type := 3, pos := "outright.go:133", after := #[{ on := 3, ground := Ground.data }], guard := none }) (v := ?_) rfl (by kernel_rfl) (by kernel_rfl) (by kernel_rfl) (fun _ _ _ h => h) (Or.inl ⟨by rfl, ?_⟩) hS0 ?_
            rotate_left
            · intro X hX
              obtain ⟨x0, x1⟩ := hX
              go_simp
              try with_reducible rfl
            simp only [Act.put, List.setIfInBounds_toArray, List.set_cons_zero, List.set_cons_succ, Array.toArray_toList]
            refine wpAnyH_take (i := 5) (oi := { dst := some 91, op := Op.move (Operand.tmp 13), type := 3, pos := "outright.go:133", after := #[], guard := none }) (v := ?_) rfl (by kernel_rfl) (by kernel_rfl) (by kernel_rfl) (fun _ _ _ h => h) (Or.inl ⟨by rfl, ?_⟩) hS0 ?_
            rotate_left
            · intro X hX
              obtain ⟨x0, x1⟩ := hX
              go_simp
              try with_reducible rfl
            simp only [Act.put, List.setIfInBounds_toArray, List.set_cons_zero, List.set_cons_succ, Array.toArray_toList]
            refine wpAnyH_take (i := 6) (oi := { dst := some 92, op := Op.binOp BinOp.sub 3 (Operand.tmp 90) (Operand.tmp 91) 3, type := 3, pos := "outright.go:133", after := #[{ on := 4, ground := Ground.data }, { on := 5, ground := Ground.data }], guard := none }) (v := ?_) rfl (by kernel_rfl) (by kernel_rfl) (by kernel_rfl) (fun _ _ _ h => h) (Or.inl ⟨by rfl, ?_⟩) hS0 ?_
            rotate_left
            · intro X hX
              obtain ⟨x0, x1⟩ := hX
              go_simp
              try with_reducible rfl
            simp only [Act.put, List.setIfInBounds_toArray, List.set_cons_zero, List.set_cons_succ, Array.toArray_toList]
            refine wpAnyH_take (i := 7) (oi := { dst := some 93, op := Op.move (Operand.tmp 10), type := 52, pos := "outright.go:133", after := #[], guard := none }) (v := ?_) rfl (by kernel_rfl) (by kernel_rfl) (by kernel_rfl) (fun _ _ _ h => h) (Or.inl ⟨by rfl, ?_⟩) hS0 ?_
            rotate_left
            · intro X hX
              obtain ⟨x0, x1⟩ := hX
              go_simp
              try with_reducible rfl
            simp only [Act.put, List.setIfInBounds_toArray, List.set_cons_zero, List.set_cons_succ, Array.toArray_toList]
            refine wpAnyH_take (i := 8) (oi := { dst := some 94, op := Op.move (Operand.tmp 12), type := 3, pos := "outright.go:133", after := #[], guard := none }) (v := ?_) rfl (by kernel_rfl) (by kernel_rfl) (by kernel_rfl) (fun _ _ _ h => h) (Or.inl ⟨by rfl, ?_⟩) hS0 ?_
            rotate_left
            · intro X hX
              obtain ⟨x0, x1⟩ := hX
              go_simp
              try with_reducible rfl
            simp only [Act.put, List.setIfInBounds_toArray, List.set_cons_zero, List.set_cons_succ, Array.toArray_toList]
            refine wpAnyH_take (i := 9) (oi := { dst := some 95, op := Op.indexAddr 52 (Operand.tmp 93) (Operand.tmp 94), type := 0, pos := "outright.go:133", after := #[{ on := 7, ground := Ground.data }, { on := 8, ground := Ground.data }], guard := none }) (v := ?_) rfl (by kernel_rfl) (by kernel_rfl) (by kernel_rfl) (fun _ _ _ h => h) (Or.inl ⟨by rfl, ?_⟩) hS0 ?_
            rotate_left
            · intro X hX
              obtain ⟨x0, x1⟩ := hX
              go_simp
              try with_reducible rfl
            simp only [Act.put, List.setIfInBounds_toArray, List.set_cons_zero, List.set_cons_succ, Array.toArray_toList]
            refine wpAnyH_take (i := 10) (oi := { dst := some 96, op := Op.fieldAddr 58 (Operand.tmp 95) 1, type := 0, pos := "outright.go:133", after := #[{ on := 9, ground := Ground.data }], guard := none }) (v := ?_) rfl (by kernel_rfl) (by kernel_rfl) (by kernel_rfl) (fun _ _ _ h => h) (Or.inl ⟨by rfl, ?_⟩) hS0 ?_
            rotate_left
            · intro X hX
              obtain ⟨x0, x1⟩ := hX
              go_simp
              try with_reducible rfl
            simp only [Act.put, List.setIfInBounds_toArray, List.set_cons_zero, List.set_cons_succ, Array.toArray_toList]
            refine wpAnyH_take (i := 11) (oi := { dst := some 97, op := Op.load 3 (Operand.tmp 96), type := 3, pos := "outright.go:133", after := #[{ on := 10, ground := Ground.data }], guard := none }) (v := ?_) rfl (by kernel_rfl) (by kernel_rfl) (by kernel_rfl) (fun _ _ _ h => h) (Or.inl ⟨by rfl, ?_⟩) hS0 ?_
            rotate_left
            · intro X hX
              obtain ⟨x0, x1⟩ := hX
              go_simp
              try with_reducible rfl
            simp only [Act.put, List.setIfInBounds_toArray, List.set_cons_zero, List.set_cons_succ, Array.toArray_toList]
            refine wpAnyH_take (i := 12) (oi := { dst := some 98, op := Op.move (Operand.tmp 13), type := 3, pos := "outright.go:133", after := #[], guard := none }) (v := ?_) rfl (by kernel_rfl) (by kernel_rfl) (by kernel_rfl) (fun _ _ _ h => h) (Or.inl ⟨by rfl, ?_⟩) hS0 ?_
            rotate_left
            · intro X hX
              obtain ⟨x0, x1⟩ := hX
              go_simp
              try with_reducible rfl
            simp only [Act.put, List.setIfInBounds_toArray, List.set_cons_zero, List.set_cons_succ, Array.toArray_toList]
            refine wpAnyH_take (i := 13) (oi := { dst := some 99, op := Op.binOp BinOp.add 3 (Operand.tmp 97) (Operand.tmp 98) 3, type := 3, pos := "outright.go:133", after := #[{ on := 11, ground := Ground.data }, { on := 12, ground := Ground.data }], guard := none }) (v := ?_) rfl (by kernel_rfl) (by kernel_rfl) (by kernel_rfl) (fun _ _ _ h => h) (Or.inl ⟨by rfl, ?_⟩) hS0 ?_
            rotate_left
            · intro X hX
              obtain ⟨x0, x1⟩ := hX
              go_simp
              try with_reducible rfl
            simp only [Act.put, List.setIfInBounds_toArray, List.set_cons_zero, List.set_cons_succ, Array.toArray_toList]
            refine wpAnyH_take (i := 14) (oi := { dst := some 100, op := Op.move (Operand.tmp 10), type := 52, pos := "outright.go:133", after := #[], guard := none }) (v := ?_) rfl (by kernel_rfl) (by kernel_rfl) (by kernel_rfl) (fun _ _ _ h => h) (Or.inl ⟨by rfl, ?_⟩) hS0 ?_
            rotate_left
            · intro X hX
              obtain ⟨x0, x1⟩ := hX
              go_simp
              try with_reducible rfl
            simp only [Act.put, List.setIfInBounds_toArray, List.set_cons_zero, List.set_cons_succ, Array.toArray_toList]
            refine wpAnyH_take (i := 15) (oi := { dst := some 101, op := Op.move (Operand.tmp 12), type := 3, pos := "outright.go:133", after := #[], guard := none }) (v := ?_) rfl (by kernel_rfl) (by kernel_rfl) (by kernel_rfl) (fun _ _ _ h => h) (Or.inl ⟨by rfl, ?_⟩) hS0 ?_
            rotate_left
            · intro X hX
              obtain ⟨x0, x1⟩ := hX
              go_simp
              try with_reducible rfl
            simp only [Act.put, List.setIfInBounds_toArray, List.set_cons_zero, List.set_cons_succ, Array.toArray_toList]
            refine wpAnyH_take (i := 16) (oi := { dst := some 102, op := Op.indexAddr 52 (Operand.tmp 100) (Operand.tmp 101), type := 0, pos := "outright.go:133", after := #[{ on := 14, ground := Ground.data }, { on := 15, ground := Ground.data }], guard := none }) (v := ?_) rfl (by kernel_rfl) (by kernel_rfl) (by kernel_rfl) (fun _ _ _ h => h) (Or.inl ⟨by rfl, ?_⟩) hS0 ?_
            rotate_left
            · intro X hX
              obtain ⟨x0, x1⟩ := hX
              go_simp
              try with_reducible rfl
            simp only [Act.put, List.setIfInBounds_toArray, List.set_cons_zero, List.set_cons_succ, Array.toArray_toList]
            refine wpAnyH_take (i := 17) (oi := { dst := some 103, op := Op.fieldAddr 58 (Operand.tmp 102) 0, type := 0, pos := "outright.go:133", after := #[{ on := 16, ground := Ground.data }], guard := none }) (v := ?_) rfl (by kernel_rfl) (by kernel_rfl) (by kernel_rfl) (fun _ _ _ h => h) (Or.inl ⟨by rfl, ?_⟩) hS0 ?_
            rotate_left
            · intro X hX
              obtain ⟨x0, x1⟩ := hX
              go_simp
              try with_reducible rfl
            simp only [Act.put, List.setIfInBounds_toArray, List.set_cons_zero, List.set_cons_succ, Array.toArray_toList]
            refine wpAnyH_take (i := 18) (oi := { dst := some 104, op := Op.load 3 (Operand.tmp 103), type := 3, pos := "outright.go:133", after := #[{ on := 17, ground := Ground.data }], guard := none }) (v := ?_) rfl (by kernel_rfl) (by kernel_rfl) (by kernel_rfl) (fun _ _ _ h => h) (Or.inl ⟨by rfl, ?_⟩) hS0 ?_
            rotate_left
            · intro X hX
              obtain ⟨x0, x1⟩ := hX
              go_simp
              try with_reducible rfl
            simp only [Act.put, List.setIfInBounds_toArray, List.set_cons_zero, List.set_cons_succ, Array.toArray_toList]
            refine wpAnyH_take (i := 19) (oi := { dst := some 105, op := Op.binOp BinOp.sub 3 (Operand.tmp 104) (Operand.const (Value.int IntKind.i64 1)) 3, type := 3, pos := "outright.go:133", after := #[{ on := 18, ground := Ground.data }], guard := none }) (v := ?_) rfl (by kernel_rfl) (by kernel_rfl) (by kernel_rfl) (fun _ _ _ h => h) (Or.inl ⟨by rfl, ?_⟩) hS0 ?_
            rotate_left
            · intro X hX
              obtain ⟨x0, x1⟩ := hX
              go_simp
              try with_reducible rfl
            simp only [Act.put, List.setIfInBounds_toArray, List.set_cons_zero, List.set_cons_succ, Array.toArray_toList]
            refine wpAnyH_take (i := 20) (oi := { dst := some 106, op := Op.move (Operand.tmp 13), type := 3, pos := "outright.go:133", after := #[], guard := none }) (v := ?_) rfl (by kernel_rfl) (by kernel_rfl) (by kernel_rfl) (fun _ _ _ h => h) (Or.inl ⟨by rfl, ?_⟩) hS0 ?_
            rotate_left
            · intro X hX
              obtain ⟨x0, x1⟩ := hX
              go_simp
              try with_reducible rfl
            simp only [Act.put, List.setIfInBounds_toArray, List.set_cons_zero, List.set_cons_succ, Array.toArray_toList]
            refine wpAnyH_take (i := 21) (oi := { dst := some 107, op := Op.binOp BinOp.sub 3 (Operand.tmp 105) (Operand.tmp 106) 3, type := 3, pos := "outright.go:133", after := #[{ on := 19, ground := Ground.data }, { on := 20, ground := Ground.data }], guard := none }) (v := ?_) rfl (by kernel_rfl) (by kernel_rfl) (by kernel_rfl) (fun _ _ _ h => h) (Or.inl ⟨by rfl, ?_⟩) hS0 ?_
            rotate_left
            · intro X hX
              obtain ⟨x0, x1⟩ := hX
              go_simp
              try with_reducible rfl
            simp only [Act.put, List.setIfInBounds_toArray, List.set_cons_zero, List.set_cons_succ, Array.toArray_toList]
            refine wpAnyH_take (i := 22) (oi := { dst := some 108, op := Op.move (Operand.tmp 10), type := 52, pos := "outright.go:133", after := #[], guard := none }) (v := ?_) rfl (by kernel_rfl) (by kernel_rfl) (by kernel_rfl) (fun _ _ _ h => h) (Or.inl ⟨by rfl, ?_⟩) hS0 ?_
            rotate_left
            · intro X hX
              obtain ⟨x0, x1⟩ := hX
              go_simp
              try with_reducible rfl
            simp only [Act.put, List.setIfInBounds_toArray, List.set_cons_zero, List.set_cons_succ, Array.toArray_toList]
            refine wpAnyH_take (i := 23) (oi := { dst := some 109, op := Op.move (Operand.tmp 12), type := 3, pos := "outright.go:133", after := #[], guard := none }) (v := ?_) rfl (by kernel_rfl) (by kernel_rfl) (by kernel_rfl) (fun _ _ _ h => h) (Or.inl ⟨by rfl, ?_⟩) hS0 ?_
            rotate_left
            · intro X hX
              obtain ⟨x0, x1⟩ := hX
              go_simp
              try with_reducible rfl
            simp only [Act.put, List.setIfInBounds_toArray, List.set_cons_zero, List.set_cons_succ, Array.toArray_toList]
            refine wpAnyH_take (i := 24) (oi := { dst := some 110, op := Op.indexAddr 52 (Operand.tmp 108) (Operand.tmp 109), type := 0, pos := "outright.go:133", after := #[{ on := 22, ground := Ground.data }, { on := 23, ground := Ground.data }], guard := none }) (v := ?_) rfl (by kernel_rfl) (by kernel_rfl) (by kernel_rfl) (fun _ _ _ h => h) (Or.inl ⟨by rfl, ?_⟩) hS0 ?_
            rotate_left
            · intro X hX
              obtain ⟨x0, x1⟩ := hX
              go_simp
              try with_reducible rfl
            simp only [Act.put, List.setIfInBounds_toArray, List.set_cons_zero, List.set_cons_succ, Array.toArray_toList]
            refine wpAnyH_take (i := 25) (oi := { dst := some 111, op := Op.fieldAddr 58 (Operand.tmp 110) 1, type := 0, pos := "outright.go:133", after := #[{ on := 24, ground := Ground.data }], guard := none }) (v := ?_) rfl (by kernel_rfl) (by kernel_rfl) (by kernel_rfl) (fun _ _ _ h => h) (Or.inl ⟨by rfl, ?_⟩) hS0 ?_
            rotate_left
            · intro X hX
              obtain ⟨x0, x1⟩ := hX
              go_simp
              try with_reducible rfl
            simp only [Act.put, List.setIfInBounds_toArray, List.set_cons_zero, List.set_cons_succ, Array.toArray_toList]
            refine wpAnyH_take (i := 26) (oi := { dst := some 112, op := Op.load 3 (Operand.tmp 111), type := 3, pos := "outright.go:133", after := #[{ on := 25, ground := Ground.data }], guard := none }) (v := ?_) rfl (by kernel_rfl) (by kernel_rfl) (by kernel_rfl) (fun _ _ _ h => h) (Or.inl ⟨by rfl, ?_⟩) hS0 ?_
            rotate_left
            · intro X hX
              obtain ⟨x0, x1⟩ := hX
              go_simp
              try with_reducible rfl
            simp only [Act.put, List.setIfInBounds_toArray, List.set_cons_zero, List.set_cons_succ, Array.toArray_toList]
            refine wpAnyH_take (i := 27) (oi := { dst := some 113, op := Op.binOp BinOp.add 3 (Operand.tmp 112) (Operand.const (Value.int IntKind.i64 1)) 3, type := 3, pos := "outright.go:133", after := #[{ on := 26, ground := Ground.data }], guard := none }) (v := ?_) rfl (by kernel_rfl) (by kernel_rfl) (by kernel_rfl) (fun _ _ _ h => h) (Or.inl ⟨by rfl, ?_⟩) hS0 ?_
            rotate_left
            · intro X hX
              obtain ⟨x0, x1⟩ := hX
              go_simp
              try with_reducible rfl
            simp only [Act.put, List.setIfInBounds_toArray, List.set_cons_zero, List.set_cons_succ, Array.toArray_toList]
            refine wpAnyH_take (i := 28) (oi := { dst := some 114, op := Op.move (Operand.tmp 13), type := 3, pos := "outright.go:133", after := #[], guard := none }) (v := ?_) rfl (by kernel_rfl) (by kernel_rfl) (by kernel_rfl) (fun _ _ _ h => h) (Or.inl ⟨by rfl, ?_⟩) hS0 ?_
            rotate_left
            · intro X hX
              obtain ⟨x0, x1⟩ := hX
              go_simp
              try with_reducible rfl
            simp only [Act.put, List.setIfInBounds_toArray, List.set_cons_zero, List.set_cons_succ, Array.toArray_toList]
            refine wpAnyH_take (i := 29) (oi := { dst := some 115, op := Op.binOp BinOp.add 3 (Operand.tmp 113) (Operand.tmp 114) 3, type := 3, pos := "outright.go:133", after := #[{ on := 27, ground := Ground.data }, { on := 28, ground := Ground.data }], guard := none }) (v := ?_) rfl (by kernel_rfl) (by kernel_rfl) (by kernel_rfl) (fun _ _ _ h => h) (Or.inl ⟨by rfl, ?_⟩) hS0 ?_
            rotate_left
            · intro X hX
              obtain ⟨x0, x1⟩ := hX
              go_simp
              try with_reducible rfl
            simp only [Act.put, List.setIfInBounds_toArray, List.set_cons_zero, List.set_cons_succ, Array.toArray_toList]
            refine wpAnyH_take (i := 31) (oi := { dst := some 117, op := Op.move (Operand.tmp 16), type := 3, pos := "outright.go:133", after := #[], guard := none }) (v := ?_) rfl (by kernel_rfl) (by kernel_rfl) (by kernel_rfl) (fun _ _ _ h => h) (Or.inl ⟨by rfl, ?_⟩) hS0 ?_
            rotate_left
            · intro X hX
              obtain ⟨x0, x1⟩ := hX
              go_simp
              try with_reducible rfl
            simp only [Act.put, List.setIfInBounds_toArray, List.set_cons_zero, List.set_cons_succ, Array.toArray_toList]
            refine wpAnyH_ready (rs := [30]) (by kernel_rfl) (by simp) (AllReadyH.cons (o := { dst := some 116, op := Op.buildSlice 25 4 #[(0, Operand.tmp 92), (1, Operand.tmp 99), (2, Operand.tmp 107), (3, Operand.tmp 115)], type := 25, pos := "outright.go:133", after := #[{ on := 6, ground := Ground.data }, { on := 13, ground := Ground.data }, { on := 21, ground := Ground.data }, { on := 29, ground := Ground.data }], guard := none }) rfl (fun K hK => ?_) AllReadyH.nil)
            go_simp
            try simp only [s0, s1, s2, s3, s4, s5]
            have hb : Below wr.heap.size wr (wr.alloc (.cells #[.int .i64 R0, .int .i64 R1, .int .i64 R2, .int .i64 R3] 3)).drew := ((Below.refl _ _).alloc (Nat.le_refl _) _).drew
            have hnn : (wr.alloc (.cells #[.int .i64 R0, .int .i64 R1, .int .i64 R2, .int .i64 R3] 3)).drew.heap[wr.heap.size]? = some (.cells #[.int .i64 R0, .int .i64 R1, .int .i64 R2, .int .i64 R3] 3 (0, 0)) := Go.heap_alloc_new wr _
            obtain ⟨Bn, hBn⟩ : ∃ B, wr.heap.size = B := ⟨_, rfl⟩
            have HBY := Lib.hid (HBX.out.trans (hb.mono HBX.out.size))
            have m0 := cell_later hb g0
            have m1 := cell_later hb g1
            rw [hBn] at hnn ⊢
            clear hBn hb
            generalize (wr.alloc (.cells #[.int .i64 R0, .int .i64 R1, .int .i64 R2, .int .i64 R3] 3)).drew = y1 at HBY hnn m0 m1 ⊢
            refine hK.out _ _ (⟨m0, m1⟩) (fun hS1 => ?_)
            clear hS0 hK K
            have ck : y1.cell? ⟨Bn, 1, none⟩ = some (.int .i64 R1) := by simp [World.cell?, hnn]
            clear hnn
            refine wpAnyH_take (i := 32) (oi := { dst := some 118, op := Op.indexAddr 25 (Operand.tmp 116) (Operand.tmp 117), type := 0, pos := "outright.go:133", after := #[{ on := 30, ground := Ground.data }, { on := 31, ground := Ground.data }], guard := none }) (v := ?_) rfl (by kernel_rfl) (by kernel_rfl) (by kernel_rfl) (fun _ _ _ h => h) (Or.inl ⟨by rfl, ?_⟩) hS1 ?_
            rotate_left
            · intro X hX
              obtain ⟨x0, x1⟩ := hX
              go_simp
              try with_reducible rfl
            simp only [Act.put, List.setIfInBounds_toArray, List.set_cons_zero, List.set_cons_succ, Array.toArray_toList]
            refine wpAnyH_ready (rs := [33]) (by kernel_rfl) (by simp) (AllReadyH.cons (o := { dst := some 119, op := Op.load 3 (Operand.tmp 118), type := 3, pos := "outright.go:133", after := #[{ on := 32, ground := Ground.data }], guard := none }) rfl (fun K hK => ?_) AllReadyH.nil)
            go_simp
            refine hK.out _ _ (hS1) (fun hS2 => ?_)
            clear hS1 hK K
            refine wpAnyH_take (i := 34) (oi := { dst := some 17, op := Op.assign (Operand.tmp 119), type := 3, pos := "outright.go:133", after := #[{ on := 33, ground := Ground.data }, { on := 0, ground := Ground.phase }, { on := 1, ground := Ground.phase }, { on := 2, ground := Ground.phase }, { on := 3, ground := Ground.phase }, { on := 4, ground := Ground.phase }, { on := 5, ground := Ground.phase }, { on := 6, ground := Ground.phase }, { on := 7, ground := Ground.phase }, { on := 8, ground := Ground.phase }, { on := 9, ground := Ground.phase }, { on := 10, ground := Ground.phase }, { on := 11, ground := Ground.phase }, { on := 12, ground := Ground.phase }, { on := 13, ground := Ground.phase }, { on := 14, ground := Ground.phase }, { on := 15, ground := Ground.phase }, { on := 16, ground := Ground.phase }, { on := 17, ground := Ground.phase }, { on := 18, ground := Ground.phase }, { on := 19, ground := Ground.phase }, { on := 20, ground := Ground.phase }, { on := 21, ground := Ground.phase }, { on := 22, ground := Ground.phase }, { on := 23, ground := Ground.phase }, { on := 24, ground := Ground.phase }, { on := 25, ground := Ground.phase }, { on := 26, ground := Ground.phase }, { on := 27, ground := Ground.phase }, { on := 28, ground := Ground.phase }, { on := 29, ground := Ground.phase }, { on := 30, ground := Ground.phase }, { on := 31, ground := Ground.phase }, { on := 32, ground := Ground.phase }, { on := 33, ground := Ground.phase }], guard := none }) (v := ?_) rfl (by kernel_rfl) (by kernel_rfl) (by kernel_rfl) (fun _ _ _ h => h) (Or.inl ⟨by rfl, ?_⟩) hS2 ?_
            rotate_left
            · intro X hX
              obtain ⟨x0, x1⟩ := hX
              go_simp
              try with_reducible rfl
            simp only [Act.put, List.setIfInBounds_toArray, List.set_cons_zero, List.set_cons_succ, Array.toArray_toList]
            refine wpAnyH_done (by kernel_rfl) ?_ _
            clear hS2
            clear ck g0 g1
            have hcin := Lib.hid (refIn_any R1 0 40 y1)
            rw [HIN.out] at hcin
            go_wp2_with fail
            refine hcin.out.mono ?_
            rintro e' y2 ⟨rfl, rfl⟩
            clear hcin
            have hib := inB_true.1 HIN.out
            have hsv := Lib.hid (ends_hi HBE.out HO.out ⟨e0.1, by omega⟩ hi (by rw [HPH.out, HQ.out, HR1.out]) hib.1 hib.2)
            obtain ⟨b0, b1, b2⟩ := blk3 ((HBY.out.block Bi (Array.getElem?_eq_some_iff.1 NBi5.out).1).trans NBi5.out)
            have hra := Lib.hid (readAs_any gA 0 cap i T C R1 l y1 (FA5.out.keep HBY.out (Nat.le_refl _)) hi (by omega))
            clear hib
            go_wp2_with fail
            clear m0 m1
            refine hra.out.mono ?_
            rintro e' y2 ⟨gx, cx, rfl, hax, hb⟩
            have HB2 := Lib.hid (HBY.out.trans (hb.mono HBY.out.size))
            have hnt := Lib.hid (net_n (some ⟨gx, 0, none⟩) l.length cx T C _ y2 (rd_len hi) hax (by omega))
            clear hra hb hax b0 b1 b2 HBY
            go_wp2_with fail
            refine hnt.out.mono ?_
            rintro e' y3 ⟨A4, c4, rfl, ha4, hb⟩
            have HB3 := Lib.hid (HB2.out.trans (hb.mono HB2.out.size))
            clear hnt hb HB2
            have hsh := Lib.hid (show_yes (cap := c4) (T := T) (C := C) (err := e) (by omega) (rd_len hi) ha4 hsv.out)
            clear ha4 hsv
            go_wp2_with fail
            refine hsh.out.mono ?_
            rintro e' y4 ⟨Av, cv4, xs4, rfl, _, _, _, hb⟩
            have HB4 := Lib.hid (HB3.out.trans (hb.mono HB3.out.size))
            clear hsh hb HB3
            go_wp2_with fail
            go_roundw
            case rel => exact ⟨2, by omega, by go_num, HB4.out⟩
            case measure => simp [intOf]
        · cases hin : inB R2 0 40 with
          | false =>
            have HIN := Lib.hid hin
            clear hin hlt hc
            go_wp2_with fail
            refine wp_region_held_drew (S := fun X => X.cell? ⟨bb, bo + i * 2, none⟩ = some (.int .i64 p) ∧ X.cell? ⟨bb, bo + i * 2 + 1, none⟩ = some (.int .i64 r)) (by kernel_rfl) (⟨g0, g1⟩) (fun hS0 => ?_)
            refine wpAnyH_take (i := 0) (oi := { dst := some 86, op := Op.move (Operand.tmp 10), type := 52, pos := "outright.go:133", after := #[], guard := none }) (v := ?_) rfl (by kernel_rfl) (by kernel_rfl) (by kernel_rfl) (fun _ _ _ h => h) (Or.inl ⟨by rfl, ?_⟩) hS0 ?_
            rotate_left
            · intro X hX
              obtain ⟨x0, x1⟩ := hX
              go_simp
              try with_reducible rfl
            simp only [Act.put, List.setIfInBounds_toArray, List.set_cons_zero, List.set_cons_succ, Array.toArray_toList]
            refine wpAnyH_take (i := 1) (oi := { dst := some 87, op := Op.move (Operand.tmp 12), type := 3, pos := "outright.go:133", after := #[], guard := none }) (v := ?_) rfl (by kernel_rfl) (by kernel_rfl) (by kernel_rfl) (fun _ _ _ h => h) (Or.inl ⟨by rfl, ?_⟩) hS0 ?_
            rotate_left
            · intro X hX
              obtain ⟨x0, x1⟩ := hX
              go_simp
              try with_reducible rfl
            simp only [Act.put, List.setIfInBounds_toArray, List.set_cons_zero, List.set_cons_succ, Array.toArray_toList]
            refine wpAnyH_take (i := 2) (oi := { dst := some 88, op := Op.indexAddr 52 (Operand.tmp 86) (Operand.tmp 87), type := 0, pos := "outright.go:133", after := #[{ on := 0, ground := Ground.data }, { on := 1, ground := Ground.data }], guard := none }) (v := ?_) rfl (by kernel_rfl) (by kernel_rfl) (by kernel_rfl) (fun _ _ _ h => h) (Or.inl ⟨by rfl, ?_⟩) hS0 ?_
            rotate_left
            · intro X hX
              obtain ⟨x0, x1⟩ := hX
              go_simp
              try with_reducible rfl
            simp only [Act.put, List.setIfInBounds_toArray, List.set_cons_zero, List.set_cons_succ, Array.toArray_toList]
            refine wpAnyH_take (i := 3) (oi := { dst := some 89, op := Op.fieldAddr 58 (Operand.tmp 88) 0, type := 0, pos := "outright.go:133", after := #[{ on := 2, ground := Ground.data }], guard := none }) (v := ?_) rfl (by kernel_rfl) (by kernel_rfl) (by kernel_rfl) (fun _ _ _ h => h) (Or.inl ⟨by rfl, ?_⟩) hS0 ?_
            rotate_left
            · intro X hX
              obtain ⟨x0, x1⟩ := hX
              go_simp
              try with_reducible rfl
            simp only [Act.put, List.setIfInBounds_toArray, List.set_cons_zero, List.set_cons_succ, Array.toArray_toList]
            refine wpAnyH_take (i := 4) (oi := { dst := some 90, op := Op.load 3 (Operand.tmp 89), type := 3, pos := "outright.go:133", after := #[{ on := 3, ground := Ground.data }], guard := none }) (v := ?_) rfl (by kernel_rfl) (by kernel_rfl) (by kernel_rfl) (fun _ _ _ h => h) (Or.inl ⟨by rfl, ?_⟩) hS0 ?_
            rotate_left
            · intro X hX
              obtain ⟨x0, x1⟩ := hX
              go_simp
              try with_reducible rfl
            simp only [Act.put, List.setIfInBounds_toArray, List.set_cons_zero, List.set_cons_succ, Array.toArray_toList]
            refine wpAnyH_take (i := 5) (oi := { dst := some 91, op := Op.move (Operand.tmp 13), type := 3, pos := "outright.go:133", after := #[], guard := none }) (v := ?_) rfl (by kernel_rfl) (by kernel_rfl) (by kernel_rfl) (fun _ _ _ h => h) (Or.inl ⟨by rfl, ?_⟩) hS0 ?_
            rotate_left
            · intro X hX
              obtain ⟨x0, x1⟩ := hX
              go_simp
              try with_reducible rfl
            simp only [Act.put, List.setIfInBounds_toArray, List.set_cons_zero, List.set_cons_succ, Array.toArray_toList]
            refine wpAnyH_take (i := 6) (oi := { dst := some 92, op := Op.binOp BinOp.sub 3 (Operand.tmp 90) (Operand.tmp 91) 3, type := 3, pos := "outright.go:133", after := #[{ on := 4, ground := Ground.data }, { on := 5, ground := Ground.data }], guard := none }) (v := ?_) rfl (by kernel_rfl) (by kernel_rfl) (by kernel_rfl) (fun _ _ _ h => h) (Or.inl ⟨by rfl, ?_⟩) hS0 ?_
            rotate_left
            · intro X hX
              obtain ⟨x0, x1⟩ := hX
              go_simp
              try with_reducible rfl
            simp only [Act.put, List.setIfInBounds_toArray, List.set_cons_zero, List.set_cons_succ, Array.toArray_toList]
            refine wpAnyH_take (i := 7) (oi := { dst := some 93, op := Op.move (Operand.tmp 10), type := 52, pos := "outright.go:133", after := #[], guard := none }) (v := ?_) rfl (by kernel_rfl) (by kernel_rfl) (by kernel_rfl) (fun _ _ _ h => h) (Or.inl ⟨by rfl, ?_⟩) hS0 ?_
            rotate_left
            · intro X hX
              obtain ⟨x0, x1⟩ := hX
              go_simp
              try with_reducible rfl
            simp only [Act.put, List.setIfInBounds_toArray, List.set_cons_zero, List.set_cons_succ, Array.toArray_toList]
            refine wpAnyH_take (i := 8) (oi := { dst := some 94, op := Op.move (Operand.tmp 12), type := 3, pos := "outright.go:133", after := #[], guard := none }) (v := ?_) rfl (by kernel_rfl) (by kernel_rfl) (by kernel_rfl) (fun _ _ _ h => h) (Or.inl ⟨by rfl, ?_⟩) hS0 ?_
            rotate_left
            · intro X hX
              obtain ⟨x0, x1⟩ := hX
              go_simp
              try with_reducible rfl
            simp only [Act.put, List.setIfInBounds_toArray, List.set_cons_zero, List.set_cons_succ, Array.toArray_toList]
            refine wpAnyH_take (i := 9) (oi := { dst := some 95, op := Op.indexAddr 52 (Operand.tmp 93) (Operand.tmp 94), type := 0, pos := "outright.go:133", after := #[{ on := 7, ground := Ground.data }, { on := 8, ground := Ground.data }], guard := none }) (v := ?_) rfl (by kernel_rfl) (by kernel_rfl) (by kernel_rfl) (fun _ _ _ h => h) (Or.inl ⟨by rfl, ?_⟩) hS0 ?_
            rotate_left
            · intro X hX
              obtain ⟨x0, x1⟩ := hX
              go_simp
              try with_reducible rfl
            simp only [Act.put, List.setIfInBounds_toArray, List.set_cons_zero, List.set_cons_succ, Array.toArray_toList]
            refine wpAnyH_take (i := 10) (oi := { dst := some 96, op := Op.fieldAddr 58 (Operand.tmp 95) 1, type := 0, pos := "outright.go:133", after := #[{ on := 9, ground := Ground.data }], guard := none }) (v := ?_) rfl (by kernel_rfl) (by kernel_rfl) (by kernel_rfl) (fun _ _ _ h => h) (Or.inl ⟨by rfl, ?_⟩) hS0 ?_
            rotate_left
            · intro X hX
              obtain ⟨x0, x1⟩ := hX
              go_simp
              try with_reducible rfl
            simp only [Act.put, List.setIfInBounds_toArray, List.set_cons_zero, List.set_cons_succ, Array.toArray_toList]
            refine wpAnyH_take (i := 11) (oi := { dst := some 97, op := Op.load 3 (Operand.tmp 96), type := 3, pos := "outright.go:133", after := #[{ on := 10, ground := Ground.data }], guard := none }) (v := ?_) rfl (by kernel_rfl) (by kernel_rfl) (by kernel_rfl) (fun _ _ _ h => h) (Or.inl ⟨by rfl, ?_⟩) hS0 ?_
            rotate_left
            · intro X hX
              obtain ⟨x0, x1⟩ := hX
              go_simp
              try with_reducible rfl
            simp only [Act.put, List.setIfInBounds_toArray, List.set_cons_zero, List.set_cons_succ, Array.toArray_toList]
            refine wpAnyH_take (i := 12) (oi := { dst := some 98, op := Op.move (Operand.tmp 13), type := 3, pos := "outright.go:133", after := #[], guard := none }) (v := ?_) rfl (by kernel_rfl) (by kernel_rfl) (by kernel_rfl) (fun _ _ _ h => h) (Or.inl ⟨by rfl, ?_⟩) hS0 ?_
            rotate_left
            · intro X hX
              obtain ⟨x0, x1⟩ := hX
              go_simp
              try with_reducible rfl
            simp only [Act.put, List.setIfInBounds_toArray, List.set_cons_zero, List.set_cons_succ, Array.toArray_toList]
            refine wpAnyH_take (i := 13) (oi := { dst := some 99, op := Op.binOp BinOp.add 3 (Operand.tmp 97) (Operand.tmp 98) 3, type := 3, pos := "outright.go:133", after := #[{ on := 11, ground := Ground.data }, { on := 12, ground := Ground.data }], guard := none }) (v := ?_) rfl (by kernel_rfl) (by kernel_rfl) (by kernel_rfl) (fun _ _ _ h => h) (Or.inl ⟨by rfl, ?_⟩) hS0 ?_
            rotate_left
            · intro X hX
              obtain ⟨x0, x1⟩ := hX
              go_simp
              try with_reducible rfl
            simp only [Act.put, List.setIfInBounds_toArray, List.set_cons_zero, List.set_cons_succ, Array.toArray_toList]
            refine wpAnyH_take (i := 14) (oi := { dst := some 100, op := Op.move (Operand.tmp 10), type := 52, pos := "outright.go:133", after := #[], guard := none }) (v := ?_) rfl (by kernel_rfl) (by kernel_rfl) (by kernel_rfl) (fun _ _ _ h => h) (Or.inl ⟨by rfl, ?_⟩) hS0 ?_
            rotate_left
            · intro X hX
              obtain ⟨x0, x1⟩ := hX
              go_simp
              try with_reducible rfl
            simp only [Act.put, List.setIfInBounds_toArray, List.set_cons_zero, List.set_cons_succ, Array.toArray_toList]
            refine wpAnyH_take (i := 15) (oi := { dst := some 101, op := Op.move (Operand.tmp 12), type := 3, pos := "outright.go:133", after := #[], guard := none }) (v := ?_) rfl (by kernel_rfl) (by kernel_rfl) (by kernel_rfl) (fun _ _ _ h => h) (Or.inl ⟨by rfl, ?_⟩) hS0 ?_
            rotate_left
            · intro X hX
              obtain ⟨x0, x1⟩ := hX
              go_simp
              try with_reducible rfl
            simp only [Act.put, List.setIfInBounds_toArray, List.set_cons_zero, List.set_cons_succ, Array.toArray_toList]
            refine wpAnyH_take (i := 16) (oi := { dst := some 102, op := Op.indexAddr 52 (Operand.tmp 100) (Operand.tmp 101), type := 0, pos := "outright.go:133", after := #[{ on := 14, ground := Ground.data }, { on := 15, ground := Ground.data }], guard := none }) (v := ?_) rfl (by kernel_rfl) (by kernel_rfl) (by kernel_rfl) (fun _ _ _ h => h) (Or.inl ⟨by rfl, ?_⟩) hS0 ?_
            rotate_left
            · intro X hX
              obtain ⟨x0, x1⟩ := hX
              go_simp
              try with_reducible rfl
            simp only [Act.put, List.setIfInBounds_toArray, List.set_cons_zero, List.set_cons_succ, Array.toArray_toList]
            refine wpAnyH_take (i := 17) (oi := { dst := some 103, op := Op.fieldAddr 58 (Operand.tmp 102) 0, type := 0, pos := "outright.go:133", after := #[{ on := 16, ground := Ground.data }], guard := none }) (v := ?_) rfl (by kernel_rfl) (by kernel_rfl) (by kernel_rfl) (fun _ _ _ h => h) (Or.inl ⟨by rfl, ?_⟩) hS0 ?_
            rotate_left
            · intro X hX
              obtain ⟨x0, x1⟩ := hX
              go_simp
              try with_reducible rfl
            simp only [Act.put, List.setIfInBounds_toArray, List.set_cons_zero, List.set_cons_succ, Array.toArray_toList]
            refine wpAnyH_take (i := 18) (oi := { dst := some 104, op := Op.load 3 (Operand.tmp 103), type := 3, pos := "outright.go:133", after := #[{ on := 17, ground := Ground.data }], guard := none }) (v := ?_) rfl (by kernel_rfl) (by kernel_rfl) (by kernel_rfl) (fun _ _ _ h => h) (Or.inl ⟨by rfl, ?_⟩) hS0 ?_
            rotate_left
            · intro X hX
              obtain ⟨x0, x1⟩ := hX
              go_simp
              try with_reducible rfl
            simp only [Act.put, List.setIfInBounds_toArray, List.set_cons_zero, List.set_cons_succ, Array.toArray_toList]
            refine wpAnyH_take (i := 19) (oi := { dst := some 105, op := Op.binOp BinOp.sub 3 (Operand.tmp 104) (Operand.const (Value.int IntKind.i64 1)) 3, type := 3, pos := "outright.go:133", after := #[{ on := 18, ground := Ground.data }], guard := none }) (v := ?_) rfl (by kernel_rfl) (by kernel_rfl) (by kernel_rfl) (fun _ _ _ h => h) (Or.inl ⟨by rfl, ?_⟩) hS0 ?_
            rotate_left
            · intro X hX
              obtain ⟨x0, x1⟩ := hX
              go_simp
              try with_reducible rfl
            simp only [Act.put, List.setIfInBounds_toArray, List.set_cons_zero, List.set_cons_succ, Array.toArray_toList]
            refine wpAnyH_take (i := 20) (oi := { dst := some 106, op := Op.move (Operand.tmp 13), type := 3, pos := "outright.go:133", after := #[], guard := none }) (v := ?_) rfl (by kernel_rfl) (by kernel_rfl) (by kernel_rfl) (fun _ _ _ h => h) (Or.inl ⟨by rfl, ?_⟩) hS0 ?_
            rotate_left
            · intro X hX
              obtain ⟨x0, x1⟩ := hX
              go_simp
              try with_reducible rfl
            simp only [Act.put, List.setIfInBounds_toArray, List.set_cons_zero, List.set_cons_succ, Array.toArray_toList]
            refine wpAnyH_take (i := 21) (oi := { dst := some 107, op := Op.binOp BinOp.sub 3 (Operand.tmp 105) (Operand.tmp 106) 3, type := 3, pos := "outright.go:133", after := #[{ on := 19, ground := Ground.data }, { on := 20, ground := Ground.data }], guard := none }) (v := ?_) rfl (by kernel_rfl) (by kernel_rfl) (by kernel_rfl) (fun _ _ _ h => h) (Or.inl ⟨by rfl, ?_⟩) hS0 ?_
            rotate_left
            · intro X hX
              obtain ⟨x0, x1⟩ := hX
              go_simp
              try with_reducible rfl
            simp only [Act.put, List.setIfInBounds_toArray, List.set_cons_zero, List.set_cons_succ, Array.toArray_toList]
            refine wpAnyH_take (i := 22) (oi := { dst := some 108, op := Op.move (Operand.tmp 10), type := 52, pos := "outright.go:133", after := #[], guard := none }) (v := ?_) rfl (by kernel_rfl) (by kernel_rfl) (by kernel_rfl) (fun _ _ _ h => h) (Or.inl ⟨by rfl, ?_⟩) hS0 ?_
            rotate_left
            · intro X hX
              obtain ⟨x0, x1⟩ := hX
              go_simp
              try with_reducible rfl
            simp only [Act.put, List.setIfInBounds_toArray, List.set_cons_zero, List.set_cons_succ, Array.toArray_toList]
            refine wpAnyH_take (i := 23) (oi := { dst := some 109, op := Op.move (Operand.tmp 12), type := 3, pos := "outright.go:133", after := #[], guard := none }) (v := ?_) rfl (by kernel_rfl) (by kernel_rfl) (by kernel_rfl) (fun _ _ _ h => h) (Or.inl ⟨by rfl, ?_⟩) hS0 ?_
            rotate_left
            · intro X hX
              obtain ⟨x0, x1⟩ := hX
              go_simp
              try with_reducible rfl
            simp only [Act.put, List.setIfInBounds_toArray, List.set_cons_zero, List.set_cons_succ, Array.toArray_toList]
            refine wpAnyH_take (i := 24) (oi := { dst := some 110, op := Op.indexAddr 52 (Operand.tmp 108) (Operand.tmp 109), type := 0, pos := "outright.go:133", after := #[{ on := 22, ground := Ground.data }, { on := 23, ground := Ground.data }], guard := none }) (v := ?_) rfl (by kernel_rfl) (by kernel_rfl) (by kernel_rfl) (fun _ _ _ h => h) (Or.inl ⟨by rfl, ?_⟩) hS0 ?_
            rotate_left
            · intro X hX
              obtain ⟨x0, x1⟩ := hX
              go_simp
              try with_reducible rfl
            simp only [Act.put, List.setIfInBounds_toArray, List.set_cons_zero, List.set_cons_succ, Array.toArray_toList]
            refine wpAnyH_take (i := 25) (oi := { dst := some 111, op := Op.fieldAddr 58 (Operand.tmp 110) 1, type := 0, pos := "outright.go:133", after := #[{ on := 24, ground := Ground.data }], guard := none }) (v := ?_) rfl (by kernel_rfl) (by kernel_rfl) (by kernel_rfl) (fun _ _ _ h => h) (Or.inl ⟨by rfl, ?_⟩) hS0 ?_
            rotate_left
            · intro X hX
              obtain ⟨x0, x1⟩ := hX
              go_simp
              try with_reducible rfl
            simp only [Act.put, List.setIfInBounds_toArray, List.set_cons_zero, List.set_cons_succ, Array.toArray_toList]
            refine wpAnyH_take (i := 26) (oi := { dst := some 112, op := Op.load 3 (Operand.tmp 111), type := 3, pos := "outright.go:133", after := #[{ on := 25, ground := Ground.data }], guard := none }) (v := ?_) rfl (by kernel_rfl) (by kernel_rfl) (by kernel_rfl) (fun _ _ _ h => h) (Or.inl ⟨by rfl, ?_⟩) hS0 ?_
            rotate_left
            · intro X hX
              obtain ⟨x0, x1⟩ := hX
              go_simp
              try with_reducible rfl
            simp only [Act.put, List.setIfInBounds_toArray, List.set_cons_zero, List.set_cons_succ, Array.toArray_toList]
            refine wpAnyH_take (i := 27) (oi := { dst := some 113, op := Op.binOp BinOp.add 3 (Operand.tmp 112) (Operand.const (Value.int IntKind.i64 1)) 3, type := 3, pos := "outright.go:133", after := #[{ on := 26, ground := Ground.data }], guard := none }) (v := ?_) rfl (by kernel_rfl) (by kernel_rfl) (by kernel_rfl) (fun _ _ _ h => h) (Or.inl ⟨by rfl, ?_⟩) hS0 ?_
            rotate_left
            · intro X hX
              obtain ⟨x0, x1⟩ := hX
              go_simp
              try with_reducible rfl
            simp only [Act.put, List.setIfInBounds_toArray, List.set_cons_zero, List.set_cons_succ, Array.toArray_toList]
            refine wpAnyH_take (i := 28) (oi := { dst := some 114, op := Op.move (Operand.tmp 13), type := 3, pos := "outright.go:133", after := #[], guard := none }) (v := ?_) rfl (by kernel_rfl) (by kernel_rfl) (by kernel_rfl) (fun _ _ _ h => h) (Or.inl ⟨by rfl, ?_⟩) hS0 ?_
            rotate_left
            · intro X hX
              obtain ⟨x0, x1⟩ := hX
              go_simp
              try with_reducible rfl
            simp only [Act.put, List.setIfInBounds_toArray, List.set_cons_zero, List.set_cons_succ, Array.toArray_toList]
            refine wpAnyH_take (i := 29) (oi := { dst := some 115, op := Op.binOp BinOp.add 3 (Operand.tmp 113) (Operand.tmp 114) 3, type := 3, pos := "outright.go:133", after := #[{ on := 27, ground := Ground.data }, { on := 28, ground := Ground.data }], guard := none }) (v := ?_) rfl (by kernel_rfl) (by kernel_rfl) (by kernel_rfl) (fun _ _ _ h => h) (Or.inl ⟨by rfl, ?_⟩) hS0 ?_
            rotate_left
            · intro X hX
              obtain ⟨x0, x1⟩ := hX
              go_simp
              try with_reducible rfl
            simp only [Act.put, List.setIfInBounds_toArray, List.set_cons_zero, List.set_cons_succ, Array.toArray_toList]
            refine wpAnyH_take (i := 31) (oi := { dst := some 117, op := Op.move (Operand.tmp 16), type := 3, pos := "outright.go:133", after := #[], guard := none }) (v := ?_) rfl (by kernel_rfl) (by kernel_rfl) (by kernel_rfl) (fun _ _ _ h => h) (Or.inl ⟨by rfl, ?_⟩) hS0 ?_
            rotate_left
            · intro X hX
              obtain ⟨x0, x1⟩ := hX
              go_simp
              try with_reducible rfl
            simp only [Act.put, List.setIfInBounds_toArray, List.set_cons_zero, List.set_cons_succ, Array.toArray_toList]
            refine wpAnyH_ready (rs := [30]) (by kernel_rfl) (by simp) (AllReadyH.cons (o := { dst := some 116, op := Op.buildSlice 25 4 #[(0, Operand.tmp 92), (1, Operand.tmp 99), (2, Operand.tmp 107), (3, Operand.tmp 115)], type := 25, pos := "outright.go:133", after := #[{ on := 6, ground := Ground.data }, { on := 13, ground := Ground.data }, { on := 21, ground := Ground.data }, { on := 29, ground := Ground.data }], guard := none }) rfl (fun K hK => ?_) AllReadyH.nil)
            go_simp
            try simp only [s0, s1, s2, s3, s4, s5]
            have hb : Below wr.heap.size wr (wr.alloc (.cells #[.int .i64 R0, .int .i64 R1, .int .i64 R2, .int .i64 R3] 3)).drew := ((Below.refl _ _).alloc (Nat.le_refl _) _).drew
            have hnn : (wr.alloc (.cells #[.int .i64 R0, .int .i64 R1, .int .i64 R2, .int .i64 R3] 3)).drew.heap[wr.heap.size]? = some (.cells #[.int .i64 R0, .int .i64 R1, .int .i64 R2, .int .i64 R3] 3 (0, 0)) := Go.heap_alloc_new wr _
            obtain ⟨Bn, hBn⟩ : ∃ B, wr.heap.size = B := ⟨_, rfl⟩
            have HBY := Lib.hid (HBX.out.trans (hb.mono HBX.out.size))
            have m0 := cell_later hb g0
            have m1 := cell_later hb g1
            rw [hBn] at hnn ⊢
            clear hBn hb
            generalize (wr.alloc (.cells #[.int .i64 R0, .int .i64 R1, .int .i64 R2, .int .i64 R3] 3)).drew = y1 at HBY hnn m0 m1 ⊢
            refine hK.out _ _ (⟨m0, m1⟩) (fun hS1 => ?_)
            clear hS0 hK K
            have ck : y1.cell? ⟨Bn, 2, none⟩ = some (.int .i64 R2) := by simp [World.cell?, hnn]
            clear hnn
            refine wpAnyH_take (i := 32) (oi := { dst := some 118, op := Op.indexAddr 25 (Operand.tmp 116) (Operand.tmp 117), type := 0, pos := "outright.go:133", after := #[{ on := 30, ground := Ground.data }, { on := 31, ground := Ground.data }], guard := none }) (v := ?_) rfl (by kernel_rfl) (by kernel_rfl) (by kernel_rfl) (fun _ _ _ h => h) (Or.inl ⟨by rfl, ?_⟩) hS1 ?_
            rotate_left
            · intro X hX
              obtain ⟨x0, x1⟩ := hX
              go_simp
              try with_reducible rfl
            simp only [Act.put, List.setIfInBounds_toArray, List.set_cons_zero, List.set_cons_succ, Array.toArray_toList]
            refine wpAnyH_ready (rs := [33]) (by kernel_rfl) (by simp) (AllReadyH.cons (o := { dst := some 119, op := Op.load 3 (Operand.tmp 118), type := 3, pos := "outright.go:133", after := #[{ on := 32, ground := Ground.data }], guard := none }) rfl (fun K hK => ?_) AllReadyH.nil)
            go_simp
            refine hK.out _ _ (hS1) (fun hS2 => ?_)
            clear hS1 hK K
            refine wpAnyH_take (i := 34) (oi := { dst := some 17, op := Op.assign (Operand.tmp 119), type := 3, pos := "outright.go:133", after := #[{ on := 33, ground := Ground.data }, { on := 0, ground := Ground.phase }, { on := 1, ground := Ground.phase }, { on := 2, ground := Ground.phase }, { on := 3, ground := Ground.phase }, { on := 4, ground := Ground.phase }, { on := 5, ground := Ground.phase }, { on := 6, ground := Ground.phase }, { on := 7, ground := Ground.phase }, { on := 8, ground := Ground.phase }, { on := 9, ground := Ground.phase }, { on := 10, ground := Ground.phase }, { on := 11, ground := Ground.phase }, { on := 12, ground := Ground.phase }, { on := 13, ground := Ground.phase }, { on := 14, ground := Ground.phase }, { on := 15, ground := Ground.phase }, { on := 16, ground := Ground.phase }, { on := 17, ground := Ground.phase }, { on := 18, ground := Ground.phase }, { on := 19, ground := Ground.phase }, { on := 20, ground := Ground.phase }, { on := 21, ground := Ground.phase }, { on := 22, ground := Ground.phase }, { on := 23, ground := Ground.phase }, { on := 24, ground := Ground.phase }, { on := 25, ground := Ground.phase }, { on := 26, ground := Ground.phase }, { on := 27, ground := Ground.phase }, { on := 28, ground := Ground.phase }, { on := 29, ground := Ground.phase }, { on := 30, ground := Ground.phase }, { on := 31, ground := Ground.phase }, { on := 32, ground := Ground.phase }, { on := 33, ground := Ground.phase }], guard := none }) (v := ?_) rfl (by kernel_rfl) (by kernel_rfl) (by kernel_rfl) (fun _ _ _ h => h) (Or.inl ⟨by rfl, ?_⟩) hS2 ?_
            rotate_left
            · intro X hX
              obtain ⟨x0, x1⟩ := hX
              go_simp
              try with_reducible rfl
            simp only [Act.put, List.setIfInBounds_toArray, List.set_cons_zero, List.set_cons_succ, Array.toArray_toList]
            refine wpAnyH_done (by kernel_rfl) ?_ _
            clear hS2
            clear ck g0 g1
            have hcin := Lib.hid (refIn_any R2 0 40 y1)
            rw [HIN.out] at hcin
            go_wp2_with fail
            refine hcin.out.mono ?_
            rintro e' y2 ⟨rfl, rfl⟩
            clear hcin
            go_wp2_with fail
            go_roundw
            case rel => exact ⟨3, by omega, by go_num, HBY.out⟩
            case measure => simp [intOf]
          | true =>
            have HIN := Lib.hid hin
            clear hin hlt hc
            go_wp2_with fail
            refine wp_region_held_drew (S := fun X => X.cell? ⟨bb, bo + i * 2, none⟩ = some (.int .i64 p) ∧ X.cell? ⟨bb, bo + i * 2 + 1, none⟩ = some (.int .i64 r)) (by kernel_rfl) (⟨g0, g1⟩) (fun hS0 => ?_)
            refine wpAnyH_take (i := 0) (oi := { dst := some 86, op := Op.move (Operand.tmp 10), type := 52, pos := "outright.go:133", after := #[], guard := none }) (v := ?_) rfl (by kernel_rfl) (by kernel_rfl) (by kernel_rfl) (fun _ _ _ h => h) (Or.inl ⟨by rfl, ?_⟩) hS0 ?_
            rotate_left
            · intro X hX
              obtain ⟨x0, x1⟩ := hX
              go_simp
              try with_reducible rfl
            simp only [Act.put, List.setIfInBounds_toArray, List.set_cons_zero, List.set_cons_succ, Array.toArray_toList]
            refine wpAnyH_take (i := 1) (oi := { dst := some 87, op := Op.move (Operand.tmp 12), type := 3, pos := "outright.go:133", after := #[], guard := none }) (v := ?_) rfl (by kernel_rfl) (by kernel_rfl) (by kernel_rfl) (fun _ _ _ h => h) (Or.inl ⟨by rfl, ?_⟩) hS0 ?_
            rotate_left
            · intro X hX
              obtain ⟨x0, x1⟩ := hX
              go_simp
              try with_reducible rfl
            simp only [Act.put, List.setIfInBounds_toArray, List.set_cons_zero, List.set_cons_succ, Array.toArray_toList]
            refine wpAnyH_take (i := 2) (oi := { dst := some 88, op := Op.indexAddr 52 (Operand.tmp 86) (Operand.tmp 87), type := 0, pos := "outright.go:133", after := #[{ on := 0, ground := Ground.data }, { on := 1, ground := Ground.data }], guard := none }) (v := ?_) rfl (by kernel_rfl) (by kernel_rfl) (by kernel_rfl) (fun _ _ _ h => h) (Or.inl ⟨by rfl, ?_⟩) hS0 ?_
            rotate_left
            · intro X hX
              obtain ⟨x0, x1⟩ := hX
              go_simp
              try with_reducible rfl
            simp only [Act.put, List.setIfInBounds_toArray, List.set_cons_zero, List.set_cons_succ, Array.toArray_toList]
            refine wpAnyH_take (i := 3) (oi := { dst := some 89, op := Op.fieldAddr 58 (Operand.tmp 88) 0, type := 0, pos := "outright.go:133", after := #[{ on := 2, ground := Ground.data }], guard := none }) (v := ?_) rfl (by kernel_rfl) (by kernel_rfl) (by kernel_rfl) (fun _ _ _ h => h) (Or.inl ⟨by rfl, ?_⟩) hS0 ?_
            rotate_left
            · intro X hX
              obtain ⟨x0, x1⟩ := hX
              go_simp
              try with_reducible rfl
            simp only [Act.put, List.setIfInBounds_toArray, List.set_cons_zero, List.set_cons_succ, Array.toArray_toList]
            refine wpAnyH_take (i := 4) (oi := { dst := some 90, op := Op.load 3 (Operand.tmp 89), type := 3, pos := "outright.go:133", after := #[{ on := 3, ground := Ground.data }], guard := none }) (v := ?_) rfl (by kernel_rfl) (by kernel_rfl) (by kernel_rfl) (fun _ _ _ h => h) (Or.inl ⟨by rfl, ?_⟩) hS0 ?_
            rotate_left
            · intro X hX
              obtain ⟨x0, x1⟩ := hX
              go_simp
              try with_reducible rfl
            simp only [Act.put, List.setIfInBounds_toArray, List.set_cons_zero, List.set_cons_succ, Array.toArray_toList]
            refine wpAnyH_take (i := 5) (oi := { dst := some 91, op := Op.move (Operand.tmp 13), type := 3, pos := "outright.go:133", after := #[], guard := none }) (v := ?_) rfl (by kernel_rfl) (by kernel_rfl) (by kernel_rfl) (fun _ _ _ h => h) (Or.inl ⟨by rfl, ?_⟩) hS0 ?_
            rotate_left
            · intro X hX
              obtain ⟨x0, x1⟩ := hX
              go_simp
              try with_reducible rfl
            simp only [Act.put, List.setIfInBounds_toArray, List.set_cons_zero, List.set_cons_succ, Array.toArray_toList]
            refine wpAnyH_take (i := 6) (oi := { dst := some 92, op := Op.binOp BinOp.sub 3 (Operand.tmp 90) (Operand.tmp 91) 3, type := 3, pos := "outright.go:133", after := #[{ on := 4, ground := Ground.data }, { on := 5, ground := Ground.data }], guard := none }) (v := ?_) rfl (by kernel_rfl) (by kernel_rfl) (by kernel_rfl) (fun _ _ _ h => h) (Or.inl ⟨by rfl, ?_⟩) hS0 ?_
            rotate_left
            · intro X hX
              obtain ⟨x0, x1⟩ := hX
              go_simp
              try with_reducible rfl
            simp only [Act.put, List.setIfInBounds_toArray, List.set_cons_zero, List.set_cons_succ, Array.toArray_toList]
            refine wpAnyH_take (i := 7) (oi := { dst := some 93, op := Op.move (Operand.tmp 10), type := 52, pos := "outright.go:133", after := #[], guard := none }) (v := ?_) rfl (by kernel_rfl) (by kernel_rfl) (by kernel_rfl) (fun _ _ _ h => h) (Or.inl ⟨by rfl, ?_⟩) hS0 ?_
            rotate_left
            · intro X hX
              obtain ⟨x0, x1⟩ := hX
              go_simp
              try with_reducible rfl
            simp only [Act.put, List.setIfInBounds_toArray, List.set_cons_zero, List.set_cons_succ, Array.toArray_toList]
            refine wpAnyH_take (i := 8) (oi := { dst := some 94, op := Op.move (Operand.tmp 12), type := 3, pos := "outright.go:133", after := #[], guard := none }) (v := ?_) rfl (by kernel_rfl) (by kernel_rfl) (by kernel_rfl) (fun _ _ _ h => h) (Or.inl ⟨by rfl, ?_⟩) hS0 ?_
            rotate_left
            · intro X hX
              obtain ⟨x0, x1⟩ := hX
              go_simp
              try with_reducible rfl
            simp only [Act.put, List.setIfInBounds_toArray, List.set_cons_zero, List.set_cons_succ, Array.toArray_toList]
            refine wpAnyH_take (i := 9) (oi := { dst := some 95, op := Op.indexAddr 52 (Operand.tmp 93) (Operand.tmp 94), type := 0, pos := "outright.go:133", after := #[{ on := 7, ground := Ground.data }, { on := 8, ground := Ground.data }], guard := none }) (v := ?_) rfl (by kernel_rfl) (by kernel_rfl) (by kernel_rfl) (fun _ _ _ h => h) (Or.inl ⟨by rfl, ?_⟩) hS0 ?_
            rotate_left
            · intro X hX
              obtain ⟨x0, x1⟩ := hX
              go_simp
              try with_reducible rfl
            simp only [Act.put, List.setIfInBounds_toArray, List.set_cons_zero, List.set_cons_succ, Array.toArray_toList]
            refine wpAnyH_take (i := 10) (oi := { dst := some 96, op := Op.fieldAddr 58 (Operand.tmp 95) 1, type := 0, pos := "outright.go:133", after := #[{ on := 9, ground := Ground.data }], guard := none }) (v := ?_) rfl (by kernel_rfl) (by kernel_rfl) (by kernel_rfl) (fun _ _ _ h => h) (Or.inl ⟨by rfl, ?_⟩) hS0 ?_
            rotate_left
            · intro X hX
              obtain ⟨x0, x1⟩ := hX
              go_simp
              try with_reducible rfl
            simp only [Act.put, List.setIfInBounds_toArray, List.set_cons_zero, List.set_cons_succ, Array.toArray_toList]
            refine wpAnyH_take (i := 11) (oi := { dst := some 97, op := Op.load 3 (Operand.tmp 96), type := 3, pos := "outright.go:133", after := #[{ on := 10, ground := Ground.data }], guard := none }) (v := ?_) rfl (by kernel_rfl) (by kernel_rfl) (by kernel_rfl) (fun _ _ _ h => h) (Or.inl ⟨by rfl, ?_⟩) hS0 ?_
            rotate_left
            · intro X hX
              obtain ⟨x0, x1⟩ := hX
              go_simp
              try with_reducible rfl
            simp only [Act.put, List.setIfInBounds_toArray, List.set_cons_zero, List.set_cons_succ, Array.toArray_toList]
            refine wpAnyH_take (i := 12) (oi := { dst := some 98, op := Op.move (Operand.tmp 13), type := 3, pos := "outright.go:133", after := #[], guard := none }) (v := ?_) rfl (by kernel_rfl) (by kernel_rfl) (by kernel_rfl) (fun _ _ _ h => h) (Or.inl ⟨by rfl, ?_⟩) hS0 ?_
            rotate_left
            · intro X hX
              obtain ⟨x0, x1⟩ := hX
              go_simp
              try with_reducible rfl
            simp only [Act.put, List.setIfInBounds_toArray, List.set_cons_zero, List.set_cons_succ, Array.toArray_toList]
            refine wpAnyH_take (i := 13) (oi := { dst := some 99, op := Op.binOp BinOp.add 3 (Operand.tmp 97) (Operand.tmp 98) 3, type := 3, pos := "outright.go:133", after := #[{ on := 11, ground := Ground.data }, { on := 12, ground := Ground.data }], guard := none }) (v := ?_) rfl (by kernel_rfl) (by kernel_rfl) (by kernel_rfl) (fun _ _ _ h => h) (Or.inl ⟨by rfl, ?_⟩) hS0 ?_
            rotate_left
            · intro X hX
              obtain ⟨x0, x1⟩ := hX
              go_simp
              try with_reducible rfl
            simp only [Act.put, List.setIfInBounds_toArray, List.set_cons_zero, List.set_cons_succ, Array.toArray_toList]
            refine wpAnyH_take (i := 14) (oi := { dst := some 100, op := Op.move (Operand.tmp 10), type := 52, pos := "outright.go:133", after := #[], guard := none }) (v := ?_) rfl (by kernel_rfl) (by kernel_rfl) (by kernel_rfl) (fun _ _ _ h => h) (Or.inl ⟨by rfl, ?_⟩) hS0 ?_
            rotate_left
            · intro X hX
              obtain ⟨x0, x1⟩ := hX
              go_simp
              try with_reducible rfl
            simp only [Act.put, List.setIfInBounds_toArray, List.set_cons_zero, List.set_cons_succ, Array.toArray_toList]
            refine wpAnyH_take (i := 15) (oi := { dst := some 101, op := Op.move (Operand.tmp 12), type := 3, pos := "outright.go:133", after := #[], guard := none }) (v := ?_) rfl (by kernel_rfl) (by kernel_rfl) (by kernel_rfl) (fun _ _ _ h => h) (Or.inl ⟨by rfl, ?_⟩) hS0 ?_
            rotate_left
            · intro X hX
              obtain ⟨x0, x1⟩ := hX
              go_simp
              try with_reducible rfl
            simp only [Act.put, List.setIfInBounds_toArray, List.set_cons_zero, List.set_cons_succ, Array.toArray_toList]
            refine wpAnyH_take (i := 16) (oi := { dst := some 102, op := Op.indexAddr 52 (Operand.tmp 100) (Operand.tmp 101), type := 0, pos := "outright.go:133", after := #[{ on := 14, ground := Ground.data }, { on := 15, ground := Ground.data }], guard := none }) (v := ?_) rfl (by kernel_rfl) (by kernel_rfl) (by kernel_rfl) (fun _ _ _ h => h) (Or.inl ⟨by rfl, ?_⟩) hS0 ?_
            rotate_left
            · intro X hX
              obtain ⟨x0, x1⟩ := hX
              go_simp
              try with_reducible rfl
            simp only [Act.put, List.setIfInBounds_toArray, List.set_cons_zero, List.set_cons_succ, Array.toArray_toList]
            refine wpAnyH_take (i := 17) (oi := { dst := some 103, op := Op.fieldAddr 58 (Operand.tmp 102) 0, type := 0, pos := "outright.go:133", after := #[{ on := 16, ground := Ground.data }], guard := none }) (v := ?_) rfl (by kernel_rfl) (by kernel_rfl) (by kernel_rfl) (fun _ _ _ h => h) (Or.inl ⟨by rfl, ?_⟩) hS0 ?_
            rotate_left
            · intro X hX
              obtain ⟨x0, x1⟩ := hX
              go_simp
              try with_reducible rfl
            simp only [Act.put, List.setIfInBounds_toArray, List.set_cons_zero, List.set_cons_succ, Array.toArray_toList]
            refine wpAnyH_take (i := 18) (oi := { dst := some 104, op := Op.load 3 (Operand.tmp 103), type := 3, pos := "outright.go:133", after := #[{ on := 17, ground := Ground.data }], guard := none }) (v := ?_) rfl (by kernel_rfl) (by kernel_rfl) (by kernel_rfl) (fun _ _ _ h => h) (Or.inl ⟨by rfl, ?_⟩) hS0 ?_
            rotate_left
            · intro X hX
              obtain ⟨x0, x1⟩ := hX
              go_simp
              try with_reducible rfl
            simp only [Act.put, List.setIfInBounds_toArray, List.set_cons_zero, List.set_cons_succ, Array.toArray_toList]
            refine wpAnyH_take (i := 19) (oi := { dst := some 105, op := Op.binOp BinOp.sub 3 (Operand.tmp 104) (Operand.const (Value.int IntKind.i64 1)) 3, type := 3, pos := "outright.go:133", after := #[{ on := 18, ground := Ground.data }], guard := none }) (v := ?_) rfl (by kernel_rfl) (by kernel_rfl) (by kernel_rfl) (fun _ _ _ h => h) (Or.inl ⟨by rfl, ?_⟩) hS0 ?_
            rotate_left
            · intro X hX
              obtain ⟨x0, x1⟩ := hX
              go_simp
              try with_reducible rfl
            simp only [Act.put, List.setIfInBounds_toArray, List.set_cons_zero, List.set_cons_succ, Array.toArray_toList]
            refine wpAnyH_take (i := 20) (oi := { dst := some 106, op := Op.move (Operand.tmp 13), type := 3, pos := "outright.go:133", after := #[], guard := none }) (v := ?_) rfl (by kernel_rfl) (by kernel_rfl) (by kernel_rfl) (fun _ _ _ h => h) (Or.inl ⟨by rfl, ?_⟩) hS0 ?_
            rotate_left
            · intro X hX
              obtain ⟨x0, x1⟩ := hX
              go_simp
              try with_reducible rfl
            simp only [Act.put, List.setIfInBounds_toArray, List.set_cons_zero, List.set_cons_succ, Array.toArray_toList]
            refine wpAnyH_take (i := 21) (oi := { dst := some 107, op := Op.binOp BinOp.sub 3 (Operand.tmp 105) (Operand.tmp 106) 3, type := 3, pos := "outright.go:133", after := #[{ on := 19, ground := Ground.data }, { on := 20, ground := Ground.data }], guard := none }) (v := ?_) rfl (by kernel_rfl) (by kernel_rfl) (by kernel_rfl) (fun _ _ _ h => h) (Or.inl ⟨by rfl, ?_⟩) hS0 ?_
            rotate_left
            · intro X hX
              obtain ⟨x0, x1⟩ := hX
              go_simp
              try with_reducible rfl
            simp only [Act.put, List.setIfInBounds_toArray, List.set_cons_zero, List.set_cons_succ, Array.toArray_toList]
            refine wpAnyH_take (i := 22) (oi := { dst := some 108, op := Op.move (Operand.tmp 10), type := 52, pos := "outright.go:133", after := #[], guard := none }) (v := ?_) rfl (by kernel_rfl) (by kernel_rfl) (by kernel_rfl) (fun _ _ _ h => h) (Or.inl ⟨by rfl, ?_⟩) hS0 ?_
            rotate_left
            · intro X hX
              obtain ⟨x0, x1⟩ := hX
              go_simp
              try with_reducible rfl
            simp only [Act.put, List.setIfInBounds_toArray, List.set_cons_zero, List.set_cons_succ, Array.toArray_toList]
            refine wpAnyH_take (i := 23) (oi := { dst := some 109, op := Op.move (Operand.tmp 12), type := 3, pos := "outright.go:133", after := #[], guard := none }) (v := ?_) rfl (by kernel_rfl) (by kernel_rfl) (by kernel_rfl) (fun _ _ _ h => h) (Or.inl ⟨by rfl, ?_⟩) hS0 ?_
            rotate_left
            · intro X hX
              obtain ⟨x0, x1⟩ := hX
              go_simp
              try with_reducible rfl
            simp only [Act.put, List.setIfInBounds_toArray, List.set_cons_zero, List.set_cons_succ, Array.toArray_toList]
            refine wpAnyH_take (i := 24) (oi := { dst := some 110, op := Op.indexAddr 52 (Operand.tmp 108) (Operand.tmp 109), type := 0, pos := "outright.go:133", after := #[{ on := 22, ground := Ground.data }, { on := 23, ground := Ground.data }], guard := none }) (v := ?_) rfl (by kernel_rfl) (by kernel_rfl) (by kernel_rfl) (fun _ _ _ h => h) (Or.inl ⟨by rfl, ?_⟩) hS0 ?_
            rotate_left
            · intro X hX
              obtain ⟨x0, x1⟩ := hX
              go_simp
              try with_reducible rfl
            simp only [Act.put, List.setIfInBounds_toArray, List.set_cons_zero, List.set_cons_succ, Array.toArray_toList]
            refine wpAnyH_take (i := 25) (oi := { dst := some 111, op := Op.fieldAddr 58 (Operand.tmp 110) 1, type := 0, pos := "outright.go:133", after := #[{ on := 24, ground := Ground.data }], guard := none }) (v := ?_) rfl (by kernel_rfl) (by kernel_rfl) (by kernel_rfl) (fun _ _ _ h => h) (Or.inl ⟨by rfl, ?_⟩) hS0 ?_
            rotate_left
            · intro X hX
              obtain ⟨x0, x1⟩ := hX
              go_simp
              try with_reducible rfl
            simp only [Act.put, List.setIfInBounds_toArray, List.set_cons_zero, List.set_cons_succ, Array.toArray_toList]
            refine wpAnyH_take (i := 26) (oi := { dst := some 112, op := Op.load 3 (Operand.tmp 111), type := 3, pos := "outright.go:133", after := #[{ on := 25, ground := Ground.data }], guard := none }) (v := ?_) rfl (by kernel_rfl) (by kernel_rfl) (by kernel_rfl) (fun _ _ _ h => h) (Or.inl ⟨by rfl, ?_⟩) hS0 ?_
            rotate_left
            · intro X hX
              obtain ⟨x0, x1⟩ := hX
              go_simp
              try with_reducible rfl
            simp only [Act.put, List.setIfInBounds_toArray, List.set_cons_zero, List.set_cons_succ, Array.toArray_toList]
            refine wpAnyH_take (i := 27) (oi := { dst := some 113, op := Op.binOp BinOp.add 3 (Operand.tmp 112) (Operand.const (Value.int IntKind.i64 1)) 3, type := 3, pos := "outright.go:133", after := #[{ on := 26, ground := Ground.data }], guard := none }) (v := ?_) rfl (by kernel_rfl) (by kernel_rfl) (by kernel_rfl) (fun _ _ _ h => h) (Or.inl ⟨by rfl, ?_⟩) hS0 ?_
            rotate_left
            · intro X hX
              obtain ⟨x0, x1⟩ := hX
              go_simp
              try with_reducible rfl
            simp only [Act.put, List.setIfInBounds_toArray, List.set_cons_zero, List.set_cons_succ, Array.toArray_toList]
            refine wpAnyH_take (i := 28) (oi := { dst := some 114, op := Op.move (Operand.tmp 13), type := 3, pos := "outright.go:133", after := #[], guard := none }) (v := ?_) rfl (by kernel_rfl) (by kernel_rfl) (by kernel_rfl) (fun _ _ _ h => h) (Or.inl ⟨by rfl, ?_⟩) hS0 ?_
            rotate_left
            · intro X hX
              obtain ⟨x0, x1⟩ := hX
              go_simp
              try with_reducible rfl
            simp only [Act.put, List.setIfInBounds_toArray, List.set_cons_zero, List.set_cons_succ, Array.toArray_toList]
            refine wpAnyH_take (i := 29) (oi := { dst := some 115, op := Op.binOp BinOp.add 3 (Operand.tmp 113) (Operand.tmp 114) 3, type := 3, pos := "outright.go:133", after := #[{ on := 27, ground := Ground.data }, { on := 28, ground := Ground.data }], guard := none }) (v := ?_) rfl (by kernel_rfl) (by kernel_rfl) (by kernel_rfl) (fun _ _ _ h => h) (Or.inl ⟨by rfl, ?_⟩) hS0 ?_
            rotate_left
            · intro X hX
              obtain ⟨x0, x1⟩ := hX
              go_simp
              try with_reducible rfl
            simp only [Act.put, List.setIfInBounds_toArray, List.set_cons_zero, List.set_cons_succ, Array.toArray_toList]
            refine wpAnyH_take (i := 31) (oi := { dst := some 117, op := Op.move (Operand.tmp 16), type := 3, pos := "outright.go:133", after := #[], guard := none }) (v := ?_) rfl (by kernel_rfl) (by kernel_rfl) (by kernel_rfl) (fun _ _ _ h => h) (Or.inl ⟨by rfl, ?_⟩) hS0 ?_
            rotate_left
            · intro X hX
              obtain ⟨x0, x1⟩ := hX
              go_simp
              try with_reducible rfl
            simp only [Act.put, List.setIfInBounds_toArray, List.set_cons_zero, List.set_cons_succ, Array.toArray_toList]
            refine wpAnyH_ready (rs := [30]) (by kernel_rfl) (by simp) (AllReadyH.cons (o := { dst := some 116, op := Op.buildSlice 25 4 #[(0, Operand.tmp 92), (1, Operand.tmp 99), (2, Operand.tmp 107), (3, Operand.tmp 115)], type := 25, pos := "outright.go:133", after := #[{ on := 6, ground := Ground.data }, { on := 13, ground := Ground.data }, { on := 21, ground := Ground.data }, { on := 29, ground := Ground.data }], guard := none }) rfl (fun K hK => ?_) AllReadyH.nil)
            go_simp
            try simp only [s0, s1, s2, s3, s4, s5]
            have hb : Below wr.heap.size wr (wr.alloc (.cells #[.int .i64 R0, .int .i64 R1, .int .i64 R2, .int .i64 R3] 3)).drew := ((Below.refl _ _).alloc (Nat.le_refl _) _).drew
            have hnn : (wr.alloc (.cells #[.int .i64 R0, .int .i64 R1, .int .i64 R2, .int .i64 R3] 3)).drew.heap[wr.heap.size]? = some (.cells #[.int .i64 R0, .int .i64 R1, .int .i64 R2, .int .i64 R3] 3 (0, 0)) := Go.heap_alloc_new wr _
            obtain ⟨Bn, hBn⟩ : ∃ B, wr.heap.size = B := ⟨_, rfl⟩
            have HBY := Lib.hid (HBX.out.trans (hb.mono HBX.out.size))
            have m0 := cell_later hb g0
            have m1 := cell_later hb g1
            rw [hBn] at hnn ⊢
            clear hBn hb
            generalize (wr.alloc (.cells #[.int .i64 R0, .int .i64 R1, .int .i64 R2, .int .i64 R3] 3)).drew = y1 at HBY hnn m0 m1 ⊢
            refine hK.out _ _ (⟨m0, m1⟩) (fun hS1 => ?_)
            clear hS0 hK K
            have ck : y1.cell? ⟨Bn, 2, none⟩ = some (.int .i64 R2) := by simp [World.cell?, hnn]
            clear hnn
            refine wpAnyH_take (i := 32) (oi := { dst := some 118, op := Op.indexAddr 25 (Operand.tmp 116) (Operand.tmp 117), type := 0, pos := "outright.go:133", after := #[{ on := 30, ground := Ground.data }, { on := 31, ground := Ground.data }], guard := none }) (v := ?_) rfl (by kernel_rfl) (by kernel_rfl) (by kernel_rfl) (fun _ _ _ h => h) (Or.inl ⟨by rfl, ?_⟩) hS1 ?_
            rotate_left
            · intro X hX
              obtain ⟨x0, x1⟩ := hX
              go_simp
              try with_reducible rfl
            simp only [Act.put, List.setIfInBounds_toArray, List.set_cons_zero, List.set_cons_succ, Array.toArray_toList]
            refine wpAnyH_ready (rs := [33]) (by kernel_rfl) (by simp) (AllReadyH.cons (o := { dst := some 119, op := Op.load 3 (Operand.tmp 118), type := 3, pos := "outright.go:133", after := #[{ on := 32, ground := Ground.data }], guard := none }) rfl (fun K hK => ?_) AllReadyH.nil)
            go_simp
            refine hK.out _ _ (hS1) (fun hS2 => ?_)
            clear hS1 hK K
            refine wpAnyH_take (i := 34) (oi := { dst := some 17, op := Op.assign (Operand.tmp 119), type := 3, pos := "outright.go:133", after := #[{ on := 33, ground := Ground.data }, { on := 0, ground := Ground.phase }, { on := 1, ground := Ground.phase }, { on := 2, ground := Ground.phase }, { on := 3, ground := Ground.phase }, { on := 4, ground := Ground.phase }, { on := 5, ground := Ground.phase }, { on := 6, ground := Ground.phase }, { on := 7, ground := Ground.phase }, { on := 8, ground := Ground.phase }, { on := 9, ground := Ground.phase }, { on := 10, ground := Ground.phase }, { on := 11, ground := Ground.phase }, { on := 12, ground := Ground.phase }, { on := 13, ground := Ground.phase }, { on := 14, ground := Ground.phase }, { on := 15, ground := Ground.phase }, { on := 16, ground := Ground.phase }, { on := 17, ground := Ground.phase }, { on := 18, ground := Ground.phase }, { on := 19, ground := Ground.phase }, { on := 20, ground := Ground.phase }, { on := 21, ground := Ground.phase }, { on := 22, ground := Ground.phase }, { on := 23, ground := Ground.phase }, { on := 24, ground := Ground.phase }, { on := 25, ground := Ground.phase }, { on := 26, ground := Ground.phase }, { on := 27, ground := Ground.phase }, { on := 28, ground := Ground.phase }, { on := 29, ground := Ground.phase }, { on := 30, ground := Ground.phase }, { on := 31, ground := Ground.phase }, { on := 32, ground := Ground.phase }, { on := 33, ground := Ground.phase }], guard := none }) (v := ?_) rfl (by kernel_rfl) (by kernel_rfl) (by kernel_rfl) (fun _ _ _ h => h) (Or.inl ⟨by rfl, ?_⟩) hS2 ?_
            rotate_left
            · intro X hX
              obtain ⟨x0, x1⟩ := hX
              go_simp
              try with_reducible rfl
            simp only [Act.put, List.setIfInBounds_toArray, List.set_cons_zero, List.set_cons_succ, Array.toArray_toList]
            refine wpAnyH_done (by kernel_rfl) ?_ _
            clear hS2
            clear ck g0 g1
            have hcin := Lib.hid (refIn_any R2 0 40 y1)
            rw [HIN.out] at hcin
            go_wp2_with fail
            refine hcin.out.mono ?_
            rintro e' y2 ⟨rfl, rfl⟩
            clear hcin
            cases hcm : decide (p ≤ LO) with
            | true =>
              go_wp2_with fail
              go_roundw
              case rel => exact ⟨3, by omega, by go_num, HBY.out⟩
              case measure => simp [intOf]
            | false =>
              have hcm2 : LO < p := by simpa using hcm
              have hib := inB_true.1 HIN.out
              have hsv := Lib.hid (ends_lo1 HBE.out HO.out ⟨e0.1, by omega⟩ hi (by rw [HPL.out, HQ.out, HR2.out]) hib.1 hib.2 (by rw [HRL.out, HPL.out]; exact hcm2))
              obtain ⟨b0, b1, b2⟩ := blk3 ((HBY.out.block Bi (Array.getElem?_eq_some_iff.1 NBi5.out).1).trans NBi5.out)
              have hra := Lib.hid (readAs_any gA 0 cap i T C R2 l y1 (FA5.out.keep HBY.out (Nat.le_refl _)) hi (by omega))
              clear hib
              go_wp2_with fail
              clear m0 m1
              refine hra.out.mono ?_
              rintro e' y2 ⟨gx, cx, rfl, hax, hb⟩
              have HB2 := Lib.hid (HBY.out.trans (hb.mono HBY.out.size))
              have hnt := Lib.hid (net_n (some ⟨gx, 0, none⟩) l.length cx T C _ y2 (rd_len hi) hax (by omega))
              clear hra hb hax b0 b1 b2 HBY
              go_wp2_with fail
              refine hnt.out.mono ?_
              rintro e' y3 ⟨A4, c4, rfl, ha4, hb⟩
              have HB3 := Lib.hid (HB2.out.trans (hb.mono HB2.out.size))
              clear hnt hb HB2
              have hsh := Lib.hid (show_no (cap := c4) (T := T) (C := C) (err := e) (by omega) (rd_len hi) ha4 (by rw [hsv.out]; decide))
              rw [hsv.out] at hsh
              clear ha4 hsv
              go_wp2_with fail
              refine hsh.out.mono ?_
              rintro e' y4 ⟨rfl, hb⟩
              have HB4 := Lib.hid (HB3.out.trans (hb.mono HB3.out.size))
              clear hsh hb HB3
              go_wp2_with fail
              go_roundw
              case rel => exact ⟨3, by omega, by go_num, HB4.out⟩
              case measure => simp [intOf]
        · cases hin : inB R3 0 40 with
          | false =>
            have HIN := Lib.hid hin
            clear hin hlt hc
            go_wp2_with fail
            refine wp_region_held_drew (S := fun X => X.cell? ⟨bb, bo + i * 2, none⟩ = some (.int .i64 p) ∧ X.cell? ⟨bb, bo + i * 2 + 1, none⟩ = some (.int .i64 r)) (by kernel_rfl) (⟨g0, g1⟩) (fun hS0 => ?_)
            refine wpAnyH_take (i := 0) (oi := { dst := some 86, op := Op.move (Operand.tmp 10), type := 52, pos := "outright.go:133", after := #[], guard := none }) (v := ?_) rfl (by kernel_rfl) (by kernel_rfl) (by kernel_rfl) (fun _ _ _ h => h) (Or.inl ⟨by rfl, ?_⟩) hS0 ?_
            rotate_left
            · intro X hX
              obtain ⟨x0, x1⟩ := hX
              go_simp
              try with_reducible rfl
            simp only [Act.put, List.setIfInBounds_toArray, List.set_cons_zero, List.set_cons_succ, Array.toArray_toList]
            refine wpAnyH_take (i := 1) (oi := { dst := some 87, op := Op.move (Operand.tmp 12), type := 3, pos := "outright.go:133", after := #[], guard := none }) (v := ?_) rfl (by kernel_rfl) (by kernel_rfl) (by kernel_rfl) (fun _ _ _ h => h) (Or.inl ⟨by rfl, ?_⟩) hS0 ?_
            rotate_left
            · intro X hX
              obtain ⟨x0, x1⟩ := hX
              go_simp
              try with_reducible rfl
            simp only [Act.put, List.setIfInBounds_toArray, List.set_cons_zero, List.set_cons_succ, Array.toArray_toList]
            refine wpAnyH_take (i := 2) (oi := { dst := some 88, op := Op.indexAddr 52 (Operand.tmp 86) (Operand.tmp 87), type := 0, pos := "outright.go:133", after := #[{ on := 0, ground := Ground.data }, { on := 1, ground := Ground.data }], guard := none }) (v := ?_) rfl (by kernel_rfl) (by kernel_rfl) (by kernel_rfl) (fun _ _ _ h => h) (Or.inl ⟨by rfl, ?_⟩) hS0 ?_
            rotate_left
            · intro X hX
              obtain ⟨x0, x1⟩ := hX
              go_simp
              try with_reducible rfl
            simp only [Act.put, List.setIfInBounds_toArray, List.set_cons_zero, List.set_cons_succ, Array.toArray_toList]
            refine wpAnyH_take (i := 3) (oi := { dst := some 89, op := Op.fieldAddr 58 (Operand.tmp 88) 0, type := 0, pos := "outright.go:133", after := #[{ on := 2, ground := Ground.data }], guard := none }) (v := ?_) rfl (by kernel_rfl) (by kernel_rfl) (by kernel_rfl) (fun _ _ _ h => h) (Or.inl ⟨by rfl, ?_⟩) hS0 ?_
            rotate_left
            · intro X hX
              obtain ⟨x0, x1⟩ := hX
              go_simp
              try with_reducible rfl
            simp only [Act.put, List.setIfInBounds_toArray, List.set_cons_zero, List.set_cons_succ, Array.toArray_toList]
            refine wpAnyH_take (i := 4) (oi := { dst := some 90, op := Op.load 3 (Operand.tmp 89), type := 3, pos := "outright.go:133", after := #[{ on := 3, ground := Ground.data }], guard := none }) (v := ?_) rfl (by kernel_rfl) (by kernel_rfl) (by kernel_rfl) (fun _ _ _ h => h) (Or.inl ⟨by rfl, ?_⟩) hS0 ?_
            rotate_left
            · intro X hX
              obtain ⟨x0, x1⟩ := hX
              go_simp
              try with_reducible rfl
            simp only [Act.put, List.setIfInBounds_toArray, List.set_cons_zero, List.set_cons_succ, Array.toArray_toList]
            refine wpAnyH_take (i := 5) (oi := { dst := some 91, op := Op.move (Operand.tmp 13), type := 3, pos := "outright.go:133", after := #[], guard := none }) (v := ?_) rfl (by kernel_rfl) (by kernel_rfl) (by kernel_rfl) (fun _ _ _ h => h) (Or.inl ⟨by rfl, ?_⟩) hS0 ?_
            rotate_left
            · intro X hX
              obtain ⟨x0, x1⟩ := hX
              go_simp
              try with_reducible rfl
            simp only [Act.put, List.setIfInBounds_toArray, List.set_cons_zero, List.set_cons_succ, Array.toArray_toList]
            refine wpAnyH_take (i := 6) (oi := { dst := some 92, op := Op.binOp BinOp.sub 3 (Operand.tmp 90) (Operand.tmp 91) 3, type := 3, pos := "outright.go:133", after := #[{ on := 4, ground := Ground.data }, { on := 5, ground := Ground.data }], guard := none }) (v := ?_) rfl (by kernel_rfl) (by kernel_rfl) (by kernel_rfl) (fun _ _ _ h => h) (Or.inl ⟨by rfl, ?_⟩) hS0 ?_
            rotate_left
            · intro X hX
              obtain ⟨x0, x1⟩ := hX
              go_simp
              try with_reducible rfl
            simp only [Act.put, List.setIfInBounds_toArray, List.set_cons_zero, List.set_cons_succ, Array.toArray_toList]
            refine wpAnyH_take (i := 7) (oi := { dst := some 93, op := Op.move (Operand.tmp 10), type := 52, pos := "outright.go:133", after := #[], guard := none }) (v := ?_) rfl (by kernel_rfl) (by kernel_rfl) (by kernel_rfl) (fun _ _ _ h => h) (Or.inl ⟨by rfl, ?_⟩) hS0 ?_
            rotate_left
            · intro X hX
              obtain ⟨x0, x1⟩ := hX
              go_simp
              try with_reducible rfl
            simp only [Act.put, List.setIfInBounds_toArray, List.set_cons_zero, List.set_cons_succ, Array.toArray_toList]
            refine wpAnyH_take (i := 8) (oi := { dst := some 94, op := Op.move (Operand.tmp 12), type := 3, pos := "outright.go:133", after := #[], guard := none }) (v := ?_) rfl (by kernel_rfl) (by kernel_rfl) (by kernel_rfl) (fun _ _ _ h => h) (Or.inl ⟨by rfl, ?_⟩) hS0 ?_
            rotate_left
            · intro X hX
              obtain ⟨x0, x1⟩ := hX
              go_simp
              try with_reducible rfl
            simp only [Act.put, List.setIfInBounds_toArray, List.set_cons_zero, List.set_cons_succ, Array.toArray_toList]
            refine wpAnyH_take (i := 9) (oi := { dst := some 95, op := Op.indexAddr 52 (Operand.tmp 93) (Operand.tmp 94), type := 0, pos := "outright.go:133", after := #[{ on := 7, ground := Ground.data }, { on := 8, ground := Ground.data }], guard := none }) (v := ?_) rfl (by kernel_rfl) (by kernel_rfl) (by kernel_rfl) (fun _ _ _ h => h) (Or.inl ⟨by rfl, ?_⟩) hS0 ?_
            rotate_left
            · intro X hX
              obtain ⟨x0, x1⟩ := hX
              go_simp
              try with_reducible rfl
            simp only [Act.put, List.setIfInBounds_toArray, List.set_cons_zero, List.set_cons_succ, Array.toArray_toList]
            refine wpAnyH_take (i := 10) (oi := { dst := some 96, op := Op.fieldAddr 58 (Operand.tmp 95) 1, type := 0, pos := "outright.go:133", after := #[{ on := 9, ground := Ground.data }], guard := none }) (v := ?_) rfl (by kernel_rfl) (by kernel_rfl) (by kernel_rfl) (fun _ _ _ h => h) (Or.inl ⟨by rfl, ?_⟩) hS0 ?_
            rotate_left
            · intro X hX
              obtain ⟨x0, x1⟩ := hX
              go_simp
              try with_reducible rfl
            simp only [Act.put, List.setIfInBounds_toArray, List.set_cons_zero, List.set_cons_succ, Array.toArray_toList]
            refine wpAnyH_take (i := 11) (oi := { dst := some 97, op := Op.load 3 (Operand.tmp 96), type := 3, pos := "outright.go:133", after := #[{ on := 10, ground := Ground.data }], guard := none }) (v := ?_) rfl (by kernel_rfl) (by kernel_rfl) (by kernel_rfl) (fun _ _ _ h => h) (Or.inl ⟨by rfl, ?_⟩) hS0 ?_
            rotate_left
            · intro X hX
              obtain ⟨x0, x1⟩ := hX
              go_simp
              try with_reducible rfl
            simp only [Act.put, List.setIfInBounds_toArray, List.set_cons_zero, List.set_cons_succ, Array.toArray_toList]
            refine wpAnyH_take (i := 12) (oi := { dst := some 98, op := Op.move (Operand.tmp 13), type := 3, pos := "outright.go:133", after := #[], guard := none }) (v := ?_) rfl (by kernel_rfl) (by kernel_rfl) (by kernel_rfl) (fun _ _ _ h => h) (Or.inl ⟨by rfl, ?_⟩) hS0 ?_
            rotate_left
            · intro X hX
              obtain ⟨x0, x1⟩ := hX
              go_simp
              try with_reducible rfl
            simp only [Act.put, List.setIfInBounds_toArray, List.set_cons_zero, List.set_cons_succ, Array.toArray_toList]
            refine wpAnyH_take (i := 13) (oi := { dst := some 99, op := Op.binOp BinOp.add 3 (Operand.tmp 97) (Operand.tmp 98) 3, type := 3, pos := "outright.go:133", after := #[{ on := 11, ground := Ground.data }, { on := 12, ground := Ground.data }], guard := none }) (v := ?_) rfl (by kernel_rfl) (by kernel_rfl) (by kernel_rfl) (fun _ _ _ h => h) (Or.inl ⟨by rfl, ?_⟩) hS0 ?_
            rotate_left
            · intro X hX
              obtain ⟨x0, x1⟩ := hX
              go_simp
              try with_reducible rfl
            simp only [Act.put, List.setIfInBounds_toArray, List.set_cons_zero, List.set_cons_succ, Array.toArray_toList]
            refine wpAnyH_take (i := 14) (oi := { dst := some 100, op := Op.move (Operand.tmp 10), type := 52, pos := "outright.go:133", after := #[], guard := none }) (v := ?_) rfl (by kernel_rfl) (by kernel_rfl) (by kernel_rfl) (fun _ _ _ h => h) (Or.inl ⟨by rfl, ?_⟩) hS0 ?_
            rotate_left
            · intro X hX
              obtain ⟨x0, x1⟩ := hX
              go_simp
              try with_reducible rfl
            simp only [Act.put, List.setIfInBounds_toArray, List.set_cons_zero, List.set_cons_succ, Array.toArray_toList]
            refine wpAnyH_take (i := 15) (oi := { dst := some 101, op := Op.move (Operand.tmp 12), type := 3, pos := "outright.go:133", after := #[], guard := none }) (v := ?_) rfl (by kernel_rfl) (by kernel_rfl) (by kernel_rfl) (fun _ _ _ h => h) (Or.inl ⟨by rfl, ?_⟩) hS0 ?_
            rotate_left
            · intro X hX
              obtain ⟨x0, x1⟩ := hX
              go_simp
              try with_reducible rfl
            simp only [Act.put, List.setIfInBounds_toArray, List.set_cons_zero, List.set_cons_succ, Array.toArray_toList]
            refine wpAnyH_take (i := 16) (oi := { dst := some 102, op := Op.indexAddr 52 (Operand.tmp 100) (Operand.tmp 101), type := 0, pos := "outright.go:133", after := #[{ on := 14, ground := Ground.data }, { on := 15, ground := Ground.data }], guard := none }) (v := ?_) rfl (by kernel_rfl) (by kernel_rfl) (by kernel_rfl) (fun _ _ _ h => h) (Or.inl ⟨by rfl, ?_⟩) hS0 ?_
            rotate_left
            · intro X hX
              obtain ⟨x0, x1⟩ := hX
              go_simp
              try with_reducible rfl
            simp only [Act.put, List.setIfInBounds_toArray, List.set_cons_zero, List.set_cons_succ, Array.toArray_toList]
            refine wpAnyH_take (i := 17) (oi := { dst := some 103, op := Op.fieldAddr 58 (Operand.tmp 102) 0, type := 0, pos := "outright.go:133", after := #[{ on := 16, ground := Ground.data }], guard := none }) (v := ?_) rfl (by kernel_rfl) (by kernel_rfl) (by kernel_rfl) (fun _ _ _ h => h) (Or.inl ⟨by rfl, ?_⟩) hS0 ?_
            rotate_left
            · intro X hX
              obtain ⟨x0, x1⟩ := hX
              go_simp
              try with_reducible rfl
            simp only [Act.put, List.setIfInBounds_toArray, List.set_cons_zero, List.set_cons_succ, Array.toArray_toList]
            refine wpAnyH_take (i := 18) (oi := { dst := some 104, op := Op.load 3 (Operand.tmp 103), type := 3, pos := "outright.go:133", after := #[{ on := 17, ground := Ground.data }], guard := none }) (v := ?_) rfl (by kernel_rfl) (by kernel_rfl) (by kernel_rfl) (fun _ _ _ h => h) (Or.inl ⟨by rfl, ?_⟩) hS0 ?_
            rotate_left
            · intro X hX
              obtain ⟨x0, x1⟩ := hX
              go_simp
              try with_reducible rfl
            simp only [Act.put, List.setIfInBounds_toArray, List.set_cons_zero, List.set_cons_succ, Array.toArray_toList]
            refine wpAnyH_take (i := 19) (oi := { dst := some 105, op := Op.binOp BinOp.sub 3 (Operand.tmp 104) (Operand.const (Value.int IntKind.i64 1)) 3, type := 3, pos := "outright.go:133", after := #[{ on := 18, ground := Ground.data }], guard := none }) (v := ?_) rfl (by kernel_rfl) (by kernel_rfl) (by kernel_rfl) (fun _ _ _ h => h) (Or.inl ⟨by rfl, ?_⟩) hS0 ?_
            rotate_left
            · intro X hX
              obtain ⟨x0, x1⟩ := hX
              go_simp
              try with_reducible rfl
            simp only [Act.put, List.setIfInBounds_toArray, List.set_cons_zero, List.set_cons_succ, Array.toArray_toList]
            refine wpAnyH_take (i := 20) (oi := { dst := some 106, op := Op.move (Operand.tmp 13), type := 3, pos := "outright.go:133", after := #[], guard := none }) (v := ?_) rfl (by kernel_rfl) (by kernel_rfl) (by kernel_rfl) (fun _ _ _ h => h) (Or.inl ⟨by rfl, ?_⟩) hS0 ?_
            rotate_left
            · intro X hX
              obtain ⟨x0, x1⟩ := hX
              go_simp
              try with_reducible rfl
            simp only [Act.put, List.setIfInBounds_toArray, List.set_cons_zero, List.set_cons_succ, Array.toArray_toList]
            refine wpAnyH_take (i := 21) (oi := { dst := some 107, op := Op.binOp BinOp.sub 3 (Operand.tmp 105) (Operand.tmp 106) 3, type := 3, pos := "outright.go:133", after := #[{ on := 19, ground := Ground.data }, { on := 20, ground := Ground.data }], guard := none }) (v := ?_) rfl (by kernel_rfl) (by kernel_rfl) (by kernel_rfl) (fun _ _ _ h => h) (Or.inl ⟨by rfl, ?_⟩) hS0 ?_
            rotate_left
            · intro X hX
              obtain ⟨x0, x1⟩ := hX
              go_simp
              try with_reducible rfl
            simp only [Act.put, List.setIfInBounds_toArray, List.set_cons_zero, List.set_cons_succ, Array.toArray_toList]
            refine wpAnyH_take (i := 22) (oi := { dst := some 108, op := Op.move (Operand.tmp 10), type := 52, pos := "outright.go:133", after := #[], guard := none }) (v := ?_) rfl (by kernel_rfl) (by kernel_rfl) (by kernel_rfl) (fun _ _ _ h => h) (Or.inl ⟨by rfl, ?_⟩) hS0 ?_
            rotate_left
            · intro X hX
              obtain ⟨x0, x1⟩ := hX
              go_simp
              try with_reducible rfl
            simp only [Act.put, List.setIfInBounds_toArray, List.set_cons_zero, List.set_cons_succ, Array.toArray_toList]
            refine wpAnyH_take (i := 23) (oi := { dst := some 109, op := Op.move (Operand.tmp 12), type := 3, pos := "outright.go:133", after := #[], guard := none }) (v := ?_) rfl (by kernel_rfl) (by kernel_rfl) (by kernel_rfl) (fun _ _ _ h => h) (Or.inl ⟨by rfl, ?_⟩) hS0 ?_
            rotate_left
            · intro X hX
              obtain ⟨x0, x1⟩ := hX
              go_simp
              try with_reducible rfl
            simp only [Act.put, List.setIfInBounds_toArray, List.set_cons_zero, List.set_cons_succ, Array.toArray_toList]
            refine wpAnyH_take (i := 24) (oi := { dst := some 110, op := Op.indexAddr 52 (Operand.tmp 108) (Operand.tmp 109), type := 0, pos := "outright.go:133", after := #[{ on := 22, ground := Ground.data }, { on := 23, ground := Ground.data }], guard := none }) (v := ?_) rfl (by kernel_rfl) (by kernel_rfl) (by kernel_rfl) (fun _ _ _ h => h) (Or.inl ⟨by rfl, ?_⟩) hS0 ?_
            rotate_left
            · intro X hX
              obtain ⟨x0, x1⟩ := hX
              go_simp
              try with_reducible rfl
            simp only [Act.put, List.setIfInBounds_toArray, List.set_cons_zero, List.set_cons_succ, Array.toArray_toList]
            refine wpAnyH_take (i := 25) (oi := { dst := some 111, op := Op.fieldAddr 58 (Operand.tmp 110) 1, type := 0, pos := "outright.go:133", after := #[{ on := 24, ground := Ground.data }], guard := none }) (v := ?_) rfl (by kernel_rfl) (by kernel_rfl) (by kernel_rfl) (fun _ _ _ h => h) (Or.inl ⟨by rfl, ?_⟩) hS0 ?_
            rotate_left
            · intro X hX
              obtain ⟨x0, x1⟩ := hX
              go_simp
              try with_reducible rfl
            simp only [Act.put, List.setIfInBounds_toArray, List.set_cons_zero, List.set_cons_succ, Array.toArray_toList]
            refine wpAnyH_take (i := 26) (oi := { dst := some 112, op := Op.load 3 (Operand.tmp 111), type := 3, pos := "outright.go:133", after := #[{ on := 25, ground := Ground.data }], guard := none }) (v := ?_) rfl (by kernel_rfl) (by kernel_rfl) (by kernel_rfl) (fun _ _ _ h => h) (Or.inl ⟨by rfl, ?_⟩) hS0 ?_
            rotate_left
            · intro X hX
              obtain ⟨x0, x1⟩ := hX
              go_simp
              try with_reducible rfl
            simp only [Act.put, List.setIfInBounds_toArray, List.set_cons_zero, List.set_cons_succ, Array.toArray_toList]
            refine wpAnyH_take (i := 27) (oi := { dst := some 113, op := Op.binOp BinOp.add 3 (Operand.tmp 112) (Operand.const (Value.int IntKind.i64 1)) 3, type := 3, pos := "outright.go:133", after := #[{ on := 26, ground := Ground.data }], guard := none }) (v := ?_) rfl (by kernel_rfl) (by kernel_rfl) (by kernel_rfl) (fun _ _ _ h => h) (Or.inl ⟨by rfl, ?_⟩) hS0 ?_
            rotate_left
            · intro X hX
              obtain ⟨x0, x1⟩ := hX
              go_simp
              try with_reducible rfl
            simp only [Act.put, List.setIfInBounds_toArray, List.set_cons_zero, List.set_cons_succ, Array.toArray_toList]
            refine wpAnyH_take (i := 28) (oi := { dst := some 114, op := Op.move (Operand.tmp 13), type := 3, pos := "outright.go:133", after := #[], guard := none }) (v := ?_) rfl (by kernel_rfl) (by kernel_rfl) (by kernel_rfl) (fun _ _ _ h => h) (Or.inl ⟨by rfl, ?_⟩) hS0 ?_
            rotate_left
            · intro X hX
              obtain ⟨x0, x1⟩ := hX
              go_simp
              try with_reducible rfl
            simp only [Act.put, List.setIfInBounds_toArray, List.set_cons_zero, List.set_cons_succ, Array.toArray_toList]
            refine wpAnyH_take (i := 29) (oi := { dst := some 115, op := Op.binOp BinOp.add 3 (Operand.tmp 113) (Operand.tmp 114) 3, type := 3, pos := "outright.go:133", after := #[{ on := 27, ground := Ground.data }, { on := 28, ground := Ground.data }], guard := none }) (v := ?_) rfl (by kernel_rfl) (by kernel_rfl) (by kernel_rfl) (fun _ _ _ h => h) (Or.inl ⟨by rfl, ?_⟩) hS0 ?_
            rotate_left
            · intro X hX
              obtain ⟨x0, x1⟩ := hX
              go_simp
              try with_reducible rfl
            simp only [Act.put, List.setIfInBounds_toArray, List.set_cons_zero, List.set_cons_succ, Array.toArray_toList]
            refine wpAnyH_take (i := 31) (oi := { dst := some 117, op := Op.move (Operand.tmp 16), type := 3, pos := "outright.go:133", after := #[], guard := none }) (v := ?_) rfl (by kernel_rfl) (by kernel_rfl) (by kernel_rfl) (fun _ _ _ h => h) (Or.inl ⟨by rfl, ?_⟩) hS0 ?_
            rotate_left
            · intro X hX
              obtain ⟨x0, x1⟩ := hX
              go_simp
              try with_reducible rfl
            simp only [Act.put, List.setIfInBounds_toArray, List.set_cons_zero, List.set_cons_succ, Array.toArray_toList]
            refine wpAnyH_ready (rs := [30]) (by kernel_rfl) (by simp) (AllReadyH.cons (o := { dst := some 116, op := Op.buildSlice 25 4 #[(0, Operand.tmp 92), (1, Operand.tmp 99), (2, Operand.tmp 107), (3, Operand.tmp 115)], type := 25, pos := "outright.go:133", after := #[{ on := 6, ground := Ground.data }, { on := 13, ground := Ground.data }, { on := 21, ground := Ground.data }, { on := 29, ground := Ground.data }], guard := none }) rfl (fun K hK => ?_) AllReadyH.nil)
            go_simp
            try simp only [s0, s1, s2, s3, s4, s5]
            have hb : Below wr.heap.size wr (wr.alloc (.cells #[.int .i64 R0, .int .i64 R1, .int .i64 R2, .int .i64 R3] 3)).drew := ((Below.refl _ _).alloc (Nat.le_refl _) _).drew
            have hnn : (wr.alloc (.cells #[.int .i64 R0, .int .i64 R1, .int .i64 R2, .int .i64 R3] 3)).drew.heap[wr.heap.size]? = some (.cells #[.int .i64 R0, .int .i64 R1, .int .i64 R2, .int .i64 R3] 3 (0, 0)) := Go.heap_alloc_new wr _
            obtain ⟨Bn, hBn⟩ : ∃ B, wr.heap.size = B := ⟨_, rfl⟩
            have HBY := Lib.hid (HBX.out.trans (hb.mono HBX.out.size))
            have m0 := cell_later hb g0
            have m1 := cell_later hb g1
            rw [hBn] at hnn ⊢
            clear hBn hb
            generalize (wr.alloc (.cells #[.int .i64 R0, .int .i64 R1, .int .i64 R2, .int .i64 R3] 3)).drew = y1 at HBY hnn m0 m1 ⊢
            refine hK.out _ _ (⟨m0, m1⟩) (fun hS1 => ?_)
            clear hS0 hK K
            have ck : y1.cell? ⟨Bn, 3, none⟩ = some (.int .i64 R3) := by simp [World.cell?, hnn]
            clear hnn
            refine wpAnyH_take (i := 32) (oi := { dst := some 118, op := Op.indexAddr 25 (Operand.tmp 116) (Operand.tmp 117), type := 0, pos := "outright.go:133", after := #[{ on := 30, ground := Ground.data }, { on := 31, ground := Ground.data }], guard := none }) (v := ?_) rfl (by kernel_rfl) (by kernel_rfl) (by kernel_rfl) (fun _ _ _ h => h) (Or.inl ⟨by rfl, ?_⟩) hS1 ?_
            rotate_left
            · intro X hX
              obtain ⟨x0, x1⟩ := hX
              go_simp
              try with_reducible rfl
            simp only [Act.put, List.setIfInBounds_toArray, List.set_cons_zero, List.set_cons_succ, Array.toArray_toList]
            refine wpAnyH_ready (rs := [33]) (by kernel_rfl) (by simp) (AllReadyH.cons (o := { dst := some 119, op := Op.load 3 (Operand.tmp 118), type := 3, pos := "outright.go:133", after := #[{ on := 32, ground := Ground.data }], guard := none }) rfl (fun K hK => ?_) AllReadyH.nil)
            go_simp
            refine hK.out _ _ (hS1) (fun hS2 => ?_)
            clear hS1 hK K
            refine wpAnyH_take (i := 34) (oi := { dst := some 17, op := Op.assign (Operand.tmp 119), type := 3, pos := "outright.go:133", after := #[{ on := 33, ground := Ground.data }, { on := 0, ground := Ground.phase }, { on := 1, ground := Ground.phase }, { on := 2, ground := Ground.phase }, { on := 3, ground := Ground.phase }, { on := 4, ground := Ground.phase }, { on := 5, ground := Ground.phase }, { on := 6, ground := Ground.phase }, { on := 7, ground := Ground.phase }, { on := 8, ground := Ground.phase }, { on := 9, ground := Ground.phase }, { on := 10, ground := Ground.phase }, { on := 11, ground := Ground.phase }, { on := 12, ground := Ground.phase }, { on := 13, ground := Ground.phase }, { on := 14, ground := Ground.phase }, { on := 15, ground := Ground.phase }, { on := 16, ground := Ground.phase }, { on := 17, ground := Ground.phase }, { on := 18, ground := Ground.phase }, { on := 19, ground := Ground.phase }, { on := 20, ground := Ground.phase }, { on := 21, ground := Ground.phase }, { on := 22, ground := Ground.phase }, { on := 23, ground := Ground.phase }, { on := 24, ground := Ground.phase }, { on := 25, ground := Ground.phase }, { on := 26, ground := Ground.phase }, { on := 27, ground := Ground.phase }, { on := 28, ground := Ground.phase }, { on := 29, ground := Ground.phase }, { on := 30, ground := Ground.phase }, { on := 31, ground := Ground.phase }, { on := 32, ground := Ground.phase }, { on := 33, ground := Ground.phase }], guard := none }) (v := ?_) rfl (by kernel_rfl) (by kernel_rfl) (by kernel_rfl) (fun _ _ _ h => h) (Or.inl ⟨by rfl, ?_⟩) hS2 ?_
            rotate_left
            · intro X hX
              obtain ⟨x0, x1⟩ := hX
              go_simp
              try with_reducible rfl
            simp only [Act.put, List.setIfInBounds_toArray, List.set_cons_zero, List.set_cons_succ, Array.toArray_toList]
            refine wpAnyH_done (by kernel_rfl) ?_ _
            clear hS2
            clear ck g0 g1
            have hcin := Lib.hid (refIn_any R3 0 40 y1)
            rw [HIN.out] at hcin
            go_wp2_with fail
            refine hcin.out.mono ?_
            rintro e' y2 ⟨rfl, rfl⟩
            clear hcin
            go_wp2_with fail
            go_roundw
            case rel => exact ⟨4, by omega, by go_num, HBY.out⟩
            case measure => simp [intOf]
          | true =>
            have HIN := Lib.hid hin
            clear hin hlt hc
            go_wp2_with fail
            refine wp_region_held_drew (S := fun X => X.cell? ⟨bb, bo + i * 2, none⟩ = some (.int .i64 p) ∧ X.cell? ⟨bb, bo + i * 2 + 1, none⟩ = some (.int .i64 r)) (by kernel_rfl) (⟨g0, g1⟩) (fun hS0 => ?_)
            refine wpAnyH_take (i := 0) (oi := { dst := some 86, op := Op.move (Operand.tmp 10), type := 52, pos := "outright.go:133", after := #[], guard := none }) (v := ?_) rfl (by kernel_rfl) (by kernel_rfl) (by kernel_rfl) (fun _ _ _ h => h) (Or.inl ⟨by rfl, ?_⟩) hS0 ?_
            rotate_left
            · intro X hX
              obtain ⟨x0, x1⟩ := hX
              go_simp
              try with_reducible rfl
            simp only [Act.put, List.setIfInBounds_toArray, List.set_cons_zero, List.set_cons_succ, Array.toArray_toList]
            refine wpAnyH_take (i := 1) (oi := { dst := some 87, op := Op.move (Operand.tmp 12), type := 3, pos := "outright.go:133", after := #[], guard := none }) (v := ?_) rfl (by kernel_rfl) (by kernel_rfl) (by kernel_rfl) (fun _ _ _ h => h) (Or.inl ⟨by rfl, ?_⟩) hS0 ?_
            rotate_left
            · intro X hX
              obtain ⟨x0, x1⟩ := hX
              go_simp
              try with_reducible rfl
            simp only [Act.put, List.setIfInBounds_toArray, List.set_cons_zero, List.set_cons_succ, Array.toArray_toList]
            refine wpAnyH_take (i := 2) (oi := { dst := some 88, op := Op.indexAddr 52 (Operand.tmp 86) (Operand.tmp 87), type := 0, pos := "outright.go:133", after := #[{ on := 0, ground := Ground.data }, { on := 1, ground := Ground.data }], guard := none }) (v := ?_) rfl (by kernel_rfl) (by kernel_rfl) (by kernel_rfl) (fun _ _ _ h => h) (Or.inl ⟨by rfl, ?_⟩) hS0 ?_
            rotate_left
            · intro X hX
              obtain ⟨x0, x1⟩ := hX
              go_simp
              try with_reducible rfl
            simp only [Act.put, List.setIfInBounds_toArray, List.set_cons_zero, List.set_cons_succ, Array.toArray_toList]
            refine wpAnyH_take (i := 3) (oi := { dst := some 89, op := Op.fieldAddr 58 (Operand.tmp 88) 0, type := 0, pos := "outright.go:133", after := #[{ on := 2, ground := Ground.data }], guard := none }) (v := ?_) rfl (by kernel_rfl) (by kernel_rfl) (by kernel_rfl) (fun _ _ _ h => h) (Or.inl ⟨by rfl, ?_⟩) hS0 ?_
            rotate_left
            · intro X hX
              obtain ⟨x0, x1⟩ := hX
              go_simp
              try with_reducible rfl
            simp only [Act.put, List.setIfInBounds_toArray, List.set_cons_zero, List.set_cons_succ, Array.toArray_toList]
            refine wpAnyH_take (i := 4) (oi := { dst := some 90, op := Op.load 3 (Operand.tmp 89), type := 3, pos := "outright.go:133", after := #[{ on := 3, ground := Ground.data }], guard := none }) (v := ?_) rfl (by kernel_rfl) (by kernel_rfl) (by kernel_rfl) (fun _ _ _ h => h) (Or.inl ⟨by rfl, ?_⟩) hS0 ?_
            rotate_left
            · intro X hX
              obtain ⟨x0, x1⟩ := hX
              go_simp
              try with_reducible rfl
            simp only [Act.put, List.setIfInBounds_toArray, List.set_cons_zero, List.set_cons_succ, Array.toArray_toList]
            refine wpAnyH_take (i := 5) (oi := { dst := some 91, op := Op.move (Operand.tmp 13), type := 3, pos := "outright.go:133", after := #[], guard := none }) (v := ?_) rfl (by kernel_rfl) (by kernel_rfl) (by kernel_rfl) (fun _ _ _ h => h) (Or.inl ⟨by rfl, ?_⟩) hS0 ?_
            rotate_left
            · intro X hX
              obtain ⟨x0, x1⟩ := hX
              go_simp
              try with_reducible rfl
            simp only [Act.put, List.setIfInBounds_toArray, List.set_cons_zero, List.set_cons_succ, Array.toArray_toList]
            refine wpAnyH_take (i := 6) (oi := { dst := some 92, op := Op.binOp BinOp.sub 3 (Operand.tmp 90) (Operand.tmp 91) 3, type := 3, pos := "outright.go:133", after := #[{ on := 4, ground := Ground.data }, { on := 5, ground := Ground.data }], guard := none }) (v := ?_) rfl (by kernel_rfl) (by kernel_rfl) (by kernel_rfl) (fun _ _ _ h => h) (Or.inl ⟨by rfl, ?_⟩) hS0 ?_
            rotate_left
            · intro X hX
              obtain ⟨x0, x1⟩ := hX
              go_simp
              try with_reducible rfl
            simp only [Act.put, List.setIfInBounds_toArray, List.set_cons_zero, List.set_cons_succ, Array.toArray_toList]
            refine wpAnyH_take (i := 7) (oi := { dst := some 93, op := Op.move (Operand.tmp 10), type := 52, pos := "outright.go:133", after := #[], guard := none }) (v := ?_) rfl (by kernel_rfl) (by kernel_rfl) (by kernel_rfl) (fun _ _ _ h => h) (Or.inl ⟨by rfl, ?_⟩) hS0 ?_
            rotate_left
            · intro X hX
              obtain ⟨x0, x1⟩ := hX
              go_simp
              try with_reducible rfl
            simp only [Act.put, List.setIfInBounds_toArray, List.set_cons_zero, List.set_cons_succ, Array.toArray_toList]
            refine wpAnyH_take (i := 8) (oi := { dst := some 94, op := Op.move (Operand.tmp 12), type := 3, pos := "outright.go:133", after := #[], guard := none }) (v := ?_) rfl (by kernel_rfl) (by kernel_rfl) (by kernel_rfl) (fun _ _ _ h => h) (Or.inl ⟨by rfl, ?_⟩) hS0 ?_
            rotate_left
            · intro X hX
              obtain ⟨x0, x1⟩ := hX
              go_simp
              try with_reducible rfl
            simp only [Act.put, List.setIfInBounds_toArray, List.set_cons_zero, List.set_cons_succ, Array.toArray_toList]
            refine wpAnyH_take (i := 9) (oi := { dst := some 95, op := Op.indexAddr 52 (Operand.tmp 93) (Operand.tmp 94), type := 0, pos := "outright.go:133", after := #[{ on := 7, ground := Ground.data }, { on := 8, ground := Ground.data }], guard := none }) (v := ?_) rfl (by kernel_rfl) (by kernel_rfl) (by kernel_rfl) (fun _ _ _ h => h) (Or.inl ⟨by rfl, ?_⟩) hS0 ?_
            rotate_left
            · intro X hX
              obtain ⟨x0, x1⟩ := hX
              go_simp
              try with_reducible rfl
            simp only [Act.put, List.setIfInBounds_toArray, List.set_cons_zero, List.set_cons_succ, Array.toArray_toList]
            refine wpAnyH_take (i := 10) (oi := { dst := some 96, op := Op.fieldAddr 58 (Operand.tmp 95) 1, type := 0, pos := "outright.go:133", after := #[{ on := 9, ground := Ground.data }], guard := none }) (v := ?_) rfl (by kernel_rfl) (by kernel_rfl) (by kernel_rfl) (fun _ _ _ h => h) (Or.inl ⟨by rfl, ?_⟩) hS0 ?_
            rotate_left
            · intro X hX
              obtain ⟨x0, x1⟩ := hX
              go_simp
              try with_reducible rfl
            simp only [Act.put, List.setIfInBounds_toArray, List.set_cons_zero, List.set_cons_succ, Array.toArray_toList]
            refine wpAnyH_take (i := 11) (oi := { dst := some 97, op := Op.load 3 (Operand.tmp 96), type := 3, pos := "outright.go:133", after := #[{ on := 10, ground := Ground.data }], guard := none }) (v := ?_) rfl (by kernel_rfl) (by kernel_rfl) (by kernel_rfl) (fun _ _ _ h => h) (Or.inl ⟨by rfl, ?_⟩) hS0 ?_
            rotate_left
            · intro X hX
              obtain ⟨x0, x1⟩ := hX
              go_simp
              try with_reducible rfl
            simp only [Act.put, List.setIfInBounds_toArray, List.set_cons_zero, List.set_cons_succ, Array.toArray_toList]
            refine wpAnyH_take (i := 12) (oi := { dst := some 98, op := Op.move (Operand.tmp 13), type := 3, pos := "outright.go:133", after := #[], guard := none }) (v := ?_) rfl (by kernel_rfl) (by kernel_rfl) (by kernel_rfl) (fun _ _ _ h => h) (Or.inl ⟨by rfl, ?_⟩) hS0 ?_
            rotate_left
            · intro X hX
              obtain ⟨x0, x1⟩ := hX
              go_simp
              try with_reducible rfl
            simp only [Act.put, List.setIfInBounds_toArray, List.set_cons_zero, List.set_cons_succ, Array.toArray_toList]
            refine wpAnyH_take (i := 13) (oi := { dst := some 99, op := Op.binOp BinOp.add 3 (Operand.tmp 97) (Operand.tmp 98) 3, type := 3, pos := "outright.go:133", after := #[{ on := 11, ground := Ground.data }, { on := 12, ground := Ground.data }], guard := none }) (v := ?_) rfl (by kernel_rfl) (by kernel_rfl) (by kernel_rfl) (fun _ _ _ h => h) (Or.inl ⟨by rfl, ?_⟩) hS0 ?_
            rotate_left
            · intro X hX
              obtain ⟨x0, x1⟩ := hX
              go_simp
              try with_reducible rfl
            simp only [Act.put, List.setIfInBounds_toArray, List.set_cons_zero, List.set_cons_succ, Array.toArray_toList]
            refine wpAnyH_take (i := 14) (oi := { dst := some 100, op := Op.move (Operand.tmp 10), type := 52, pos := "outright.go:133", after := #[], guard := none }) (v := ?_) rfl (by kernel_rfl) (by kernel_rfl) (by kernel_rfl) (fun _ _ _ h => h) (Or.inl ⟨by rfl, ?_⟩) hS0 ?_
            rotate_left
            · intro X hX
              obtain ⟨x0, x1⟩ := hX
              go_simp
              try with_reducible rfl
            simp only [Act.put, List.setIfInBounds_toArray, List.set_cons_zero, List.set_cons_succ, Array.toArray_toList]
            refine wpAnyH_take (i := 15) (oi := { dst := some 101, op := Op.move (Operand.tmp 12), type := 3, pos := "outright.go:133", after := #[], guard := none }) (v := ?_) rfl (by kernel_rfl) (by kernel_rfl) (by kernel_rfl) (fun _ _ _ h => h) (Or.inl ⟨by rfl, ?_⟩) hS0 ?_
            rotate_left
            · intro X hX
              obtain ⟨x0, x1⟩ := hX
              go_simp
              try with_reducible rfl
            simp only [Act.put, List.setIfInBounds_toArray, List.set_cons_zero, List.set_cons_succ, Array.toArray_toList]
            refine wpAnyH_take (i := 16) (oi := { dst := some 102, op := Op.indexAddr 52 (Operand.tmp 100) (Operand.tmp 101), type := 0, pos := "outright.go:133", after := #[{ on := 14, ground := Ground.data }, { on := 15, ground := Ground.data }], guard := none }) (v := ?_) rfl (by kernel_rfl) (by kernel_rfl) (by kernel_rfl) (fun _ _ _ h => h) (Or.inl ⟨by rfl, ?_⟩) hS0 ?_
            rotate_left
            · intro X hX
              obtain ⟨x0, x1⟩ := hX
              go_simp
              try with_reducible rfl
            simp only [Act.put, List.setIfInBounds_toArray, List.set_cons_zero, List.set_cons_succ, Array.toArray_toList]
            refine wpAnyH_take (i := 17) (oi := { dst := some 103, op := Op.fieldAddr 58 (Operand.tmp 102) 0, type := 0, pos := "outright.go:133", after := #[{ on := 16, ground := Ground.data }], guard := none }) (v := ?_) rfl (by kernel_rfl) (by kernel_rfl) (by kernel_rfl) (fun _ _ _ h => h) (Or.inl ⟨by rfl, ?_⟩) hS0 ?_
            rotate_left
            · intro X hX
              obtain ⟨x0, x1⟩ := hX
              go_simp
              try with_reducible rfl
            simp only [Act.put, List.setIfInBounds_toArray, List.set_cons_zero, List.set_cons_succ, Array.toArray_toList]
            refine wpAnyH_take (i := 18) (oi := { dst := some 104, op := Op.load 3 (Operand.tmp 103), type := 3, pos := "outright.go:133", after := #[{ on := 17, ground := Ground.data }], guard := none }) (v := ?_) rfl (by kernel_rfl) (by kernel_rfl) (by kernel_rfl) (fun _ _ _ h => h) (Or.inl ⟨by rfl, ?_⟩) hS0 ?_
            rotate_left
            · intro X hX
              obtain ⟨x0, x1⟩ := hX
              go_simp
              try with_reducible rfl
            simp only [Act.put, List.setIfInBounds_toArray, List.set_cons_zero, List.set_cons_succ, Array.toArray_toList]
            refine wpAnyH_take (i := 19) (oi := { dst := some 105, op := Op.binOp BinOp.sub 3 (Operand.tmp 104) (Operand.const (Value.int IntKind.i64 1)) 3, type := 3, pos := "outright.go:133", after := #[{ on := 18, ground := Ground.data }], guard := none }) (v := ?_) rfl (by kernel_rfl) (by kernel_rfl) (by kernel_rfl) (fun _ _ _ h => h) (Or.inl ⟨by rfl, ?_⟩) hS0 ?_
            rotate_left
            · intro X hX
              obtain ⟨x0, x1⟩ := hX
              go_simp
              try with_reducible rfl
            simp only [Act.put, List.setIfInBounds_toArray, List.set_cons_zero, List.set_cons_succ, Array.toArray_toList]
            refine wpAnyH_take (i := 20) (oi := { dst := some 106, op := Op.move (Operand.tmp 13), type := 3, pos := "outright.go:133", after := #[], guard := none }) (v := ?_) rfl (by kernel_rfl) (by kernel_rfl) (by kernel_rfl) (fun _ _ _ h => h) (Or.inl ⟨by rfl, ?_⟩) hS0 ?_
            rotate_left
            · intro X hX
              obtain ⟨x0, x1⟩ := hX
              go_simp
              try with_reducible rfl
            simp only [Act.put, List.setIfInBounds_toArray, List.set_cons_zero, List.set_cons_succ, Array.toArray_toList]
            refine wpAnyH_take (i := 21) (oi := { dst := some 107, op := Op.binOp BinOp.sub 3 (Operand.tmp 105) (Operand.tmp 106) 3, type := 3, pos := "outright.go:133", after := #[{ on := 19, ground := Ground.data }, { on := 20, ground := Ground.data }], guard := none }) (v := ?_) rfl (by kernel_rfl) (by kernel_rfl) (by kernel_rfl) (fun _ _ _ h => h) (Or.inl ⟨by rfl, ?_⟩) hS0 ?_
            rotate_left
            · intro X hX
              obtain ⟨x0, x1⟩ := hX
              go_simp
              try with_reducible rfl
            simp only [Act.put, List.setIfInBounds_toArray, List.set_cons_zero, List.set_cons_succ, Array.toArray_toList]
            refine wpAnyH_take (i := 22) (oi := { dst := some 108, op := Op.move (Operand.tmp 10), type := 52, pos := "outright.go:133", after := #[], guard := none }) (v := ?_) rfl (by kernel_rfl) (by kernel_rfl) (by kernel_rfl) (fun _ _ _ h => h) (Or.inl ⟨by rfl, ?_⟩) hS0 ?_
            rotate_left
            · intro X hX
              obtain ⟨x0, x1⟩ := hX
              go_simp
              try with_reducible rfl
            simp only [Act.put, List.setIfInBounds_toArray, List.set_cons_zero, List.set_cons_succ, Array.toArray_toList]
            refine wpAnyH_take (i := 23) (oi := { dst := some 109, op := Op.move (Operand.tmp 12), type := 3, pos := "outright.go:133", after := #[], guard := none }) (v := ?_) rfl (by kernel_rfl) (by kernel_rfl) (by kernel_rfl) (fun _ _ _ h => h) (Or.inl ⟨by rfl, ?_⟩) hS0 ?_
            rotate_left
            · intro X hX
              obtain ⟨x0, x1⟩ := hX
              go_simp
              try with_reducible rfl
            simp only [Act.put, List.setIfInBounds_toArray, List.set_cons_zero, List.set_cons_succ, Array.toArray_toList]
            refine wpAnyH_take (i := 24) (oi := { dst := some 110, op := Op.indexAddr 52 (Operand.tmp 108) (Operand.tmp 109), type := 0, pos := "outright.go:133", after := #[{ on := 22, ground := Ground.data }, { on := 23, ground := Ground.data }], guard := none }) (v := ?_) rfl (by kernel_rfl) (by kernel_rfl) (by kernel_rfl) (fun _ _ _ h => h) (Or.inl ⟨by rfl, ?_⟩) hS0 ?_
            rotate_left
            · intro X hX
              obtain ⟨x0, x1⟩ := hX
              go_simp
              try with_reducible rfl
            simp only [Act.put, List.setIfInBounds_toArray, List.set_cons_zero, List.set_cons_succ, Array.toArray_toList]
            refine wpAnyH_take (i := 25) (oi := { dst := some 111, op := Op.fieldAddr 58 (Operand.tmp 110) 1, type := 0, pos := "outright.go:133", after := #[{ on := 24, ground := Ground.data }], guard := none }) (v := ?_) rfl (by kernel_rfl) (by kernel_rfl) (by kernel_rfl) (fun _ _ _ h => h) (Or.inl ⟨by rfl, ?_⟩) hS0 ?_
            rotate_left
            · intro X hX
              obtain ⟨x0, x1⟩ := hX
              go_simp
              try with_reducible rfl
            simp only [Act.put, List.setIfInBounds_toArray, List.set_cons_zero, List.set_cons_succ, Array.toArray_toList]
            refine wpAnyH_take (i := 26) (oi := { dst := some 112, op := Op.load 3 (Operand.tmp 111), type := 3, pos := "outright.go:133", after := #[{ on := 25, ground := Ground.data }], guard := none }) (v := ?_) rfl (by kernel_rfl) (by kernel_rfl) (by kernel_rfl) (fun _ _ _ h => h) (Or.inl ⟨by rfl, ?_⟩) hS0 ?_
            rotate_left
            · intro X hX
              obtain ⟨x0, x1⟩ := hX
              go_simp
              try with_reducible rfl
            simp only [Act.put, List.setIfInBounds_toArray, List.set_cons_zero, List.set_cons_succ, Array.toArray_toList]
            refine wpAnyH_take (i := 27) (oi := { dst := some 113, op := Op.binOp BinOp.add 3 (Operand.tmp 112) (Operand.const (Value.int IntKind.i64 1)) 3, type := 3, pos := "outright.go:133", after := #[{ on := 26, ground := Ground.data }], guard := none }) (v := ?_) rfl (by kernel_rfl) (by kernel_rfl) (by kernel_rfl) (fun _ _ _ h => h) (Or.inl ⟨by rfl, ?_⟩) hS0 ?_
            rotate_left
            · intro X hX
              obtain ⟨x0, x1⟩ := hX
              go_simp
              try with_reducible rfl
            simp only [Act.put, List.setIfInBounds_toArray, List.set_cons_zero, List.set_cons_succ, Array.toArray_toList]
            refine wpAnyH_take (i := 28) (oi := { dst := some 114, op := Op.move (Operand.tmp 13), type := 3, pos := "outright.go:133", after := #[], guard := none }) (v := ?_) rfl (by kernel_rfl) (by kernel_rfl) (by kernel_rfl) (fun _ _ _ h => h) (Or.inl ⟨by rfl, ?_⟩) hS0 ?_
            rotate_left
            · intro X hX
              obtain ⟨x0, x1⟩ := hX
              go_simp
              try with_reducible rfl
            simp only [Act.put, List.setIfInBounds_toArray, List.set_cons_zero, List.set_cons_succ, Array.toArray_toList]
            refine wpAnyH_take (i := 29) (oi := { dst := some 115, op := Op.binOp BinOp.add 3 (Operand.tmp 113) (Operand.tmp 114) 3, type := 3, pos := "outright.go:133", after := #[{ on := 27, ground := Ground.data }, { on := 28, ground := Ground.data }], guard := none }) (v := ?_) rfl (by kernel_rfl) (by kernel_rfl) (by kernel_rfl) (fun _ _ _ h => h) (Or.inl ⟨by rfl, ?_⟩) hS0 ?_
            rotate_left
            · intro X hX
              obtain ⟨x0, x1⟩ := hX
              go_simp
              try with_reducible rfl
            simp only [Act.put, List.setIfInBounds_toArray, List.set_cons_zero, List.set_cons_succ, Array.toArray_toList]
            refine wpAnyH_take (i := 31) (oi := { dst := some 117, op := Op.move (Operand.tmp 16), type := 3, pos := "outright.go:133", after := #[], guard := none }) (v := ?_) rfl (by kernel_rfl) (by kernel_rfl) (by kernel_rfl) (fun _ _ _ h => h) (Or.inl ⟨by rfl, ?_⟩) hS0 ?_
            rotate_left
            · intro X hX
              obtain ⟨x0, x1⟩ := hX
              go_simp
              try with_reducible rfl
            simp only [Act.put, List.setIfInBounds_toArray, List.set_cons_zero, List.set_cons_succ, Array.toArray_toList]
            refine wpAnyH_ready (rs := [30]) (by kernel_rfl) (by simp) (AllReadyH.cons (o := { dst := some 116, op := Op.buildSlice 25 4 #[(0, Operand.tmp 92), (1, Operand.tmp 99), (2, Operand.tmp 107), (3, Operand.tmp 115)], type := 25, pos := "outright.go:133", after := #[{ on := 6, ground := Ground.data }, { on := 13, ground := Ground.data }, { on := 21, ground := Ground.data }, { on := 29, ground := Ground.data }], guard := none }) rfl (fun K hK => ?_) AllReadyH.nil)
            go_simp
            try simp only [s0, s1, s2, s3, s4, s5]
            have hb : Below wr.heap.size wr (wr.alloc (.cells #[.int .i64 R0, .int .i64 R1, .int .i64 R2, .int .i64 R3] 3)).drew := ((Below.refl _ _).alloc (Nat.le_refl _) _).drew
            have hnn : (wr.alloc (.cells #[.int .i64 R0, .int .i64 R1, .int .i64 R2, .int .i64 R3] 3)).drew.heap[wr.heap.size]? = some (.cells #[.int .i64 R0, .int .i64 R1, .int .i64 R2, .int .i64 R3] 3 (0, 0)) := Go.heap_alloc_new wr _
            obtain ⟨Bn, hBn⟩ : ∃ B, wr.heap.size = B := ⟨_, rfl⟩
            have HBY := Lib.hid (HBX.out.trans (hb.mono HBX.out.size))
            have m0 := cell_later hb g0
            have m1 := cell_later hb g1
            rw [hBn] at hnn ⊢
            clear hBn hb
            generalize (wr.alloc (.cells #[.int .i64 R0, .int .i64 R1, .int .i64 R2, .int .i64 R3] 3)).drew = y1 at HBY hnn m0 m1 ⊢
            refine hK.out _ _ (⟨m0, m1⟩) (fun hS1 => ?_)
            clear hS0 hK K
            have ck : y1.cell? ⟨Bn, 3, none⟩ = some (.int .i64 R3) := by simp [World.cell?, hnn]
            clear hnn
            refine wpAnyH_take (i := 32) (oi := { dst := some 118, op := Op.indexAddr 25 (Operand.tmp 116) (Operand.tmp 117), type := 0, pos := "outright.go:133", after := #[{ on := 30, ground := Ground.data }, { on := 31, ground := Ground.data }], guard := none }) (v := ?_) rfl (by kernel_rfl) (by kernel_rfl) (by kernel_rfl) (fun _ _ _ h => h) (Or.inl ⟨by rfl, ?_⟩) hS1 ?_
            rotate_left
            · intro X hX
              obtain ⟨x0, x1⟩ := hX
              go_simp
              try with_reducible rfl
            simp only [Act.put, List.setIfInBounds_toArray, List.set_cons_zero, List.set_cons_succ, Array.toArray_toList]
            refine wpAnyH_ready (rs := [33]) (by kernel_rfl) (by simp) (AllReadyH.cons (o := { dst := some 119, op := Op.load 3 (Operand.tmp 118), type := 3, pos := "outright.go:133", after := #[{ on := 32, ground := Ground.data }], guard := none }) rfl (fun K hK => ?_) AllReadyH.nil)
            go_simp
            refine hK.out _ _ (hS1) (fun hS2 => ?_)
            clear hS1 hK K
            refine wpAnyH_take (i := 34) (oi := { dst := some 17, op := Op.assign (Operand.tmp 119), type := 3, pos := "outright.go:133", after := #[{ on := 33, ground := Ground.data }, { on := 0, ground := Ground.phase }, { on := 1, ground := Ground.phase }, { on := 2, ground := Ground.phase }, { on := 3, ground := Ground.phase }, { on := 4, ground := Ground.phase }, { on := 5, ground := Ground.phase }, { on := 6, ground := Ground.phase }, { on := 7, ground := Ground.phase }, { on := 8, ground := Ground.phase }, { on := 9, ground := Ground.phase }, { on := 10, ground := Ground.phase }, { on := 11, ground := Ground.phase }, { on := 12, ground := Ground.phase }, { on := 13, ground := Ground.phase }, { on := 14, ground := Ground.phase }, { on := 15, ground := Ground.phase }, { on := 16, ground := Ground.phase }, { on := 17, ground := Ground.phase }, { on := 18, ground := Ground.phase }, { on := 19, ground := Ground.phase }, { on := 20, ground := Ground.phase }, { on := 21, ground := Ground.phase }, { on := 22, ground := Ground.phase }, { on := 23, ground := Ground.phase }, { on := 24, ground := Ground.phase }, { on := 25, ground := Ground.phase }, { on := 26, ground := Ground.phase }, { on := 27, ground := Ground.phase }, { on := 28, ground := Ground.phase }, { on := 29, ground := Ground.phase }, { on := 30, ground := Ground.phase }, { on := 31, ground := Ground.phase }, { on := 32, ground := Ground.phase }, { on := 33, ground := Ground.phase }], guard := none }) (v := ?_) rfl (by kernel_rfl) (by kernel_rfl) (by kernel_rfl) (fun _ _ _ h => h) (Or.inl ⟨by rfl, ?_⟩) hS2 ?_
            rotate_left
            · intro X hX
              obtain ⟨x0, x1⟩ := hX
              go_simp
              try with_reducible rfl
            simp only [Act.put, List.setIfInBounds_toArray, List.set_cons_zero, List.set_cons_succ, Array.toArray_toList]
            refine wpAnyH_done (by kernel_rfl) ?_ _
            clear hS2
            clear ck g0 g1
            have hcin := Lib.hid (refIn_any R3 0 40 y1)
            rw [HIN.out] at hcin
            go_wp2_with fail
            refine hcin.out.mono ?_
            rintro e' y2 ⟨rfl, rfl⟩
            clear hcin
            cases hcm : decide (HI ≤ r) with
            | true =>
              have hcm3 : decide (r ≥ HI) = true := hcm
              go_wp2_with fail
              go_roundw
              case rel => exact ⟨4, by omega, by go_num, HBY.out⟩
              case measure => simp [intOf]
            | false =>
              have hcm3 : decide (r ≥ HI) = false := hcm
              have hcm2 : r < HI := by simpa using hcm
              have hib := inB_true.1 HIN.out
              have hsv := Lib.hid (ends_hi1 HBE.out HO.out ⟨e0.1, by omega⟩ hi (by rw [HPH.out, HQ.out, HR3.out]) hib.1 hib.2 (by rw [HRH.out, HPH.out]; exact hcm2))
              obtain ⟨b0, b1, b2⟩ := blk3 ((HBY.out.block Bi (Array.getElem?_eq_some_iff.1 NBi5.out).1).trans NBi5.out)
              have hra := Lib.hid (readAs_any gA 0 cap i T C R3 l y1 (FA5.out.keep HBY.out (Nat.le_refl _)) hi (by omega))
              clear hib
              go_wp2_with fail
              clear m0 m1
              refine hra.out.mono ?_
              rintro e' y2 ⟨gx, cx, rfl, hax, hb⟩
              have HB2 := Lib.hid (HBY.out.trans (hb.mono HBY.out.size))
              have hnt := Lib.hid (net_n (some ⟨gx, 0, none⟩) l.length cx T C _ y2 (rd_len hi) hax (by omega))
              clear hra hb hax b0 b1 b2 HBY
              go_wp2_with fail
              refine hnt.out.mono ?_
              rintro e' y3 ⟨A4, c4, rfl, ha4, hb⟩
              have HB3 := Lib.hid (HB2.out.trans (hb.mono HB2.out.size))
              clear hnt hb HB2
              have hsh := Lib.hid (show_no (cap := c4) (T := T) (C := C) (err := e) (by omega) (rd_len hi) ha4 (by rw [hsv.out]; decide))
              rw [hsv.out] at hsh
              clear ha4 hsv
              go_wp2_with fail
              refine hsh.out.mono ?_
              rintro e' y4 ⟨rfl, hb⟩
              have HB4 := Lib.hid (HB3.out.trans (hb.mono HB3.out.size))
              clear hsh hb HB3
              go_wp2_with fail
              go_roundw
              case rel => exact ⟨4, by omega, by go_num, HB4.out⟩
              case measure => simp [intOf]
      · obtain rfl : c = 4 := by omega
        have n1 : decide (LO ≤ p) = true := by simp; omega
        have n2 : decide (p ≥ LO) = true := n1
        have n3 : decide (r ≤ HI) = true := by simp; omega
        have HB9 := Lib.hid (HB5.out.trans (HBX.out.mono HB5.out.size))
        clear hlt hc
        go_wp2_with fail
        refine (awake_any _).mono ?_
        rintro e' wz ⟨rfl, hb⟩
        have HBZ := Lib.hid (HB9.out.trans (hb.mono HB9.out.size))
        clear hb
        go_wp2_with fail
        go_ret
        exact ⟨rfl, HBZ.out⟩
end Go.Proofs.Ytkloaeaepjoijaa

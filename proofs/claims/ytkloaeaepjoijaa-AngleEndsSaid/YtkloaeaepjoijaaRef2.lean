/-
  The reference: rising, Rooms.
-/
import Derived.Test.YtkloaeaepjoijaaRef1
import Derived.Deep.QuietTactic
import Derived.BigQuiet
set_option linter.all false
namespace Go.Proofs.Ytkloaeaepjoijaa
open Go.RowKit Go.WalkArith

theorem Try.info60 : (Try.prog.info? 60).map (fun i => (i.zero, i.size, i.bytes)) = some (some (.agg #[.int .i64 0, .int .i64 0]), 2, 16) := by kernel_rfl

theorem _root_.Go.RowKit.Below.drewN {k : Nat} {w w' : World} (h : Below k w w') (n : Nat) : Below k w (w'.drewN n) := ⟨h.os, h.tape, h.output, h.size, h.block⟩

set_option maxRecDepth 100000 in
set_option maxHeartbeats 2000000 in
theorem refRising_any (v : Value) (xs : List Int) (many : Int) (w : World) (hv : IntsAt w v xs) (hn : xs.length ≤ 1000000) (h0 : 0 ≤ many) (h1 : many ≤ 5) :
    Calls Try.prog 74 #[v, .int .i64 many] w fun e w' => e = .returned (.bool (risingB xs many)) ∧ Below w.heap.size w w' := by
  obtain ⟨A, cap, rfl, hx⟩ := hv
  have HX := Lib.hid hx
  clear hx
  go_enter Try.func74, Try.ntmps74
  go_wp2_with fail
  go_loopw [5] (fun i wr => ∃ k : Nat, k ≤ xs.length ∧ i = .int .i64 k ∧ (∀ j, j < k → risesAt xs many j = true) ∧ Below w.heap.size w wr) (fun i _ => xs.length - (intOf i).toNat)
  case atStart => exact ⟨0, by omega, rfl, fun j h => by omega, Below.refl _ _⟩
  case round =>
    obtain ⟨k, hk, rfl, hno, hbe⟩ := hrel
    have HN := Lib.hid hno
    have HBE := Lib.hid hbe
    clear hno hbe
    by_cases hlt : k < xs.length
    · obtain ⟨b, o, rfl, hc⟩ := HX.out.resolve_left (fun h => by rw [h] at hlt; simp at hlt)
      have hlt' : decide ((k : Int) < (xs.length : Int)) = true := by simpa using hlt
      have ck := hc k hlt
      have hbl := World.block_lt_of_cell? w _ ck
      rw [← HBE.out.cell hbl] at ck
      obtain ⟨y, hy⟩ : ∃ y, xs[k] = y := ⟨_, rfl⟩
      rw [hy] at ck
      have hyd : xs.getD k 0 = y := by simp [hlt, hy]
      have hin := Lib.hid (fun w => refIn_any y 0 (many - 1) w)
      have wm : IntKind.i64.wrap (many - 1) = many - 1 := IntWalk.i64_in _ (by omega)
      cases hb : inB y 0 (many - 1) with
      | false =>
        rw [hb] at hin
        have hf : risingB xs many = false := risingB_no hlt (by unfold risesAt; rw [hyd, hb]; rfl)
        have HF := Lib.hid hf
        have i1 : (0 : Int) ≤ (k : Int) := by omega
        have i2 : (k : Int) < (xs.length : Int) := by omega
        clear hf hy hyd hb hc
        go_wp2_with fail
        go_quiet ((go_at_call 46; exact Calls.quiet_of_same ((hin.out _).mono fun _ _ h => ⟨h.1, h.2.symm⟩)))
        go_wp2_with fail
        go_ret
        exact ⟨by rw [HF.out]; rfl, (HBE.out.drewN _)⟩
      | true =>
        rw [hb] at hin
        by_cases hk0 : k = 0
        · subst hk0
          have hra : risesAt xs many 0 = true := by unfold risesAt; rw [hyd, hb]; rfl
          have HRA := Lib.hid hra
          have ck0 : wr.cell? ⟨b, o, none⟩ = some (.int .i64 y) := ck
          have hlt0 : decide ((0 : Int) < (xs.length : Int)) = true := by simpa using hlt
          have i2 : (0 : Int) < (xs.length : Int) := by omega
          simp only [Int.ofNat_zero]
          clear hra hy hyd hb hc ck
          go_wp2_with fail
          go_quiet ((go_at_call 46; exact Calls.quiet_of_same ((hin.out _).mono fun _ _ h => ⟨h.1, h.2.symm⟩)))
          go_wp2_with fail
          go_roundw
          case rel => exact ⟨1, by omega, rfl, fun j hj => by (obtain rfl : j = 0 := (by omega)); exact HRA.out, (HBE.out.drewN _)⟩
          case measure => simp [intOf]; omega
        · obtain ⟨m, rfl⟩ : ∃ m, k = m + 1 := ⟨k - 1, by omega⟩
          have cm := hc m (by omega)
          rw [← HBE.out.cell (p := ⟨b, o + m, none⟩) hbl] at cm
          obtain ⟨z, hz⟩ : ∃ z, xs[m] = z := ⟨_, rfl⟩
          rw [hz] at cm
          have hzd : xs.getD m 0 = z := by simp [show m < xs.length by omega, hz]
          have hpos : decide ((0 : Int) < (m : Int) + 1) = true := by rw [decide_eq_true_eq]; omega
          have hlt2 : decide ((m : Int) + 1 < (xs.length : Int)) = true := by rw [decide_eq_true_eq]; omega
          rw [show (((m + 1 : Nat)) : Int) = (m : Int) + 1 by omega]
          have i1 : (0 : Int) ≤ (m : Int) := by omega
          have i3 : (m : Int) < (xs.length : Int) := by omega
          have i4 : (0 : Int) ≤ (m : Int) + 1 := by omega
          have i5 : ((m : Int) + 1).toNat = m + 1 := by omega
          have i6 : (m : Int) + 1 - 1 = (m : Int) := by omega
          have i7 : IntKind.i64.wrap ((m : Int) + 1 - 1) = (m : Int) := (IntWalk.i64_in _ (by omega)).trans (by omega)
          have i2 : (m : Int) + 1 < (xs.length : Int) := by omega
          by_cases hzy : z < y
          · have hle : decide (y ≤ z) = false := by simp; omega
            have hra : risesAt xs many (m + 1) = true := by unfold risesAt; rw [hyd, hb, show m + 1 - 1 = m by omega, hzd]; simp [hzy]
            have HRA := Lib.hid hra
            clear hra hy hyd hb hc hz hzd
            go_wp2_with fail
            go_quiet ((go_at_call 46; exact Calls.quiet_of_same ((hin.out _).mono fun _ _ h => ⟨h.1, h.2.symm⟩)))
            go_wp2_with fail
            go_roundw
            case rel => exact ⟨m + 1 + 1, by omega, by go_num, fun j hj => by
              by_cases e : j = m + 1
              · rw [e]; exact HRA.out
              · exact HN.out j (by omega), (HBE.out.drewN _)⟩
            case measure => simp [intOf]; omega
          · have hle : decide (y ≤ z) = true := by simp; omega
            have hf : risingB xs many = false := risingB_no hlt (by unfold risesAt; rw [hyd, hb, show m + 1 - 1 = m by omega, hzd]; simp [hzy])
            have HF := Lib.hid hf
            clear hf hy hyd hb hc hz hzd
            go_wp2_with fail
            go_quiet ((go_at_call 46; exact Calls.quiet_of_same ((hin.out _).mono fun _ _ h => ⟨h.1, h.2.symm⟩)))
            go_wp2_with fail
            go_ret
            exact ⟨by rw [HF.out]; rfl, (HBE.out.drewN _)⟩
    · have hlt' : decide ((k : Int) < (xs.length : Int)) = false := by simpa using hlt
      have hf : risingB xs many = true := risingB_yes fun j hj => HN.out j (by omega)
      have HF := Lib.hid hf
      clear hf
      go_wp2_with fail
      go_ret
      exact ⟨by rw [HF.out]; rfl, HBE.out⟩

/-- The numbers of bits. -/
def bitsL (bits : Nat) : List Int := ((List.range 16).filter bits.testBit).map fun i : Nat => (i : Int)
theorem bitsL_zero : bitsL 0 = [] := by decide
theorem bitsL_has {bits i : Nat} (h : i < 16) : (bitsL bits).contains (i : Int) = bits.testBit i := by
  rw [Bool.eq_iff_iff]
  simp only [bitsL, List.contains_iff_mem, List.mem_map, List.mem_filter, List.mem_range]
  constructor
  · rintro ⟨j, ⟨_, hj⟩, e⟩
    obtain rfl : j = i := by omega
    exact hj
  · intro hb; exact ⟨i, ⟨h, hb⟩, rfl⟩

def RRel (l : List Ang) (err : Int) (out : List Int) (n base : Nat) (w : World) (Bi : Nat) (net : Obj) (v i : Value) (wr : World) : Prop :=
  ∃ k : Nat, k ≤ n ∧ i = .int .i64 k ∧ wr.heap[Bi]? = some net ∧ wr.ownsRow base 60 2 v k (flatR (roomLo l err out) (roomHi l err out) k) ∧ Below w.heap.size w wr

theorem rrel_step {l : List Ang} {err : Int} {out : List Int} {w wr X w6 : World} {Bi k : Nat} {net : Obj} {v v' : Value} {L H : Int} (hBX : Below wr.heap.size wr X) (how : wr.ownsRow (Bi + 1) 60 2 v k (flatR (roomLo l err out) (roomHi l err out) k))
    (hgrow : X.grownBy w6 v.ownBlock) (hown6 : w6.ownsRow (Bi + 1) 60 2 v' (k + 1) (flatR (roomLo l err out) (roomHi l err out) k ++ [.int .i64 L, .int .i64 H])) (hL : roomLo l err out k = L) (hH : roomHi l err out k = H) (hI : wr.heap[Bi]? = some net) (hBe : Below w.heap.size w wr) (hlt : Bi < wr.heap.size) (ho : w.heap.size ≤ Bi := by omega) :
    w6.heap[Bi]? = some net ∧ w6.ownsRow (Bi + 1) 60 2 v' (k + 1) (flatR (roomLo l err out) (roomHi l err out) (k + 1)) ∧ Below w.heap.size w w6 := by
  have hbs := hBX.size
  have hb : ∀ j, j ≤ Bi → w6.heap[j]? = wr.heap[j]? := fun j hj => (hgrow.block j (by omega) (fun e => by have := how.lt j e.symm; omega)).trans (hBX.block j (by omega))
  refine ⟨(hb Bi (Nat.le_refl _)).trans hI, by rw [flatR_succ, hL, hH]; exact hown6, ?_⟩
  have h1 := hBe.trans (hBX.mono hBe.size)
  exact ⟨hgrow.os.trans h1.os, hgrow.tape.trans h1.tape, hgrow.output.trans h1.output, Nat.le_trans h1.size hgrow.size, fun j hj => (hb j (by omega)).trans (hBe.block j hj)⟩

set_option maxRecDepth 100000 in
set_option maxHeartbeats 4000000 in
theorem refRooms_any (b o n cap : Nat) (T C err : Int) (l : List Ang) (bits : Nat) (w : World) (hl : l.length = n) (hok : NetOk l T C) (hA : AngsAt w (some ⟨b, o, none⟩) l) (he0 : 0 ≤ err) (he1 : err ≤ 40) (hbits : bits < 65536) :
    Calls Try.prog 30 #[.agg #[.slice (some ⟨b, o, none⟩) n cap, .int .i64 T, .int .i64 C], .int .i64 err, .int .i64 bits] w fun e w' => ∃ v, e = .returned v ∧ RangesAt w' v n (roomLo l err (bitsL bits)) (roomHi l err (bitsL bits)) ∧ Below w.heap.size w w' := by
  obtain ⟨i0, hi0, hz0, hz1, hz2⟩ := info_parts Try.info60
  have hB : Below w.heap.size w (w.alloc (.cells #[.slice (some ⟨b, o, none⟩) n cap, .int .i64 T, .int .i64 C] 24)) := (Below.refl _ _).alloc (Nat.le_refl _) _
  have hn0 := Go.heap_alloc_new w (.cells #[.slice (some ⟨b, o, none⟩) n cap, .int .i64 T, .int .i64 C] 24)
  have HB := Lib.hid hB
  have HN := Lib.hid hn0
  have HA := Lib.hid hA
  have HL := Lib.hid hl
  have HO := Lib.hid hok
  have hn12 : n ≤ 12 := by rw [← hl]; exact hok.len
  clear hB hn0 hA hl hok
  go_enter Try.func30, Try.ntmps30
  go_wp2_with fail
  generalize w.alloc (.cells #[.slice (some ⟨b, o, none⟩) n cap, .int .i64 T, .int .i64 C] 24) = w1 at HB HN ⊢
  obtain ⟨Bi, hBi⟩ : ∃ Bi, w.heap.size = Bi := ⟨_, rfl⟩
  have o1 : w.heap.size ≤ Bi := by omega
  rw [hBi] at HN ⊢
  clear hBi
  go_loopw [7, 8] (RRel l err (bitsL bits) n (Bi + 1) w Bi (.cells #[.slice (some ⟨b, o, none⟩) n cap, .int .i64 T, .int .i64 C] 24 (0, 0))) (fun _ i _ => n - (intOf i).toNat)
  case atStart => exact ⟨0, by omega, rfl, HN.out, World.ownsRow_nil _ _ _ _, HB.out⟩
  case round =>
    clear HB HN
    obtain ⟨k, hk, rfl, hI, hown, hBe⟩ := hrel
    have x0 : wr.cell? ⟨Bi, 0, none⟩ = some (.slice (some ⟨b, o, none⟩) n cap) := by simp [World.cell?, hI]
    have lBi : Bi < wr.heap.size := (Array.getElem?_eq_some_iff.1 hI).1
    by_cases hlt : k < n
    · have hlt' : decide ((k : Int) < (n : Int)) = true := by simpa using hlt
      have hlk : k < l.length := by rw [HL.out]; exact hlt
      have hAw := HA.out.keep hBe (Nat.le_refl _)
      obtain ⟨b', o', hAe, hAs⟩ := hAw.resolve_left (fun h => by rw [h] at hlk; simp at hlk)
      obtain ⟨rfl, rfl⟩ : b = b' ∧ o = o' := by simpa using hAe
      obtain ⟨ak0, ak1, ak2, ak3⟩ := hAs k hlk
      have han := HO.out.ang l[k] (List.getElem_mem hlk)
      have hrl := roomLo_at hlk err (bitsL bits)
      have hrh := roomHi_at hlk err (bitsL bits)
      rw [bitsL_has (by omega)] at hrl hrh
      obtain ⟨a, ha⟩ : ∃ a, l[k] = a := ⟨_, rfl⟩
      rw [ha] at ak0 ak1 ak2 ak3 han hrl hrh
      have HRL := Lib.hid hrl
      have HRH := Lib.hid hrh
      have hm0 : 0 ≤ err * a.g := Int.mul_nonneg he0 (by omega)
      have hm1 : err * a.g ≤ 120 := by
        have : err * a.g ≤ 40 * a.g := Int.mul_le_mul_of_nonneg_right he1 (by omega)
        omega
      have HI := Lib.hid hI
      have HOW := Lib.hid hown
      have HBe := Lib.hid hBe
      have i1 : (0 : Int) ≤ (k : Int) := by omega
      have i2 : (k : Int) < (n : Int) := by omega
      obtain ⟨wid, hwid⟩ : ∃ wid, err * a.g = wid := ⟨_, rfl⟩
      rw [hwid] at HRL HRH hm0 hm1
      have hbit := bit_at bits k
      obtain ⟨Av, capv, rfl⟩ := own_slice hown
      clear hI hown hBe ha hAs hAe hAw hrl hrh
      cases htb : bits.testBit k with
      | false =>
        rw [htb] at hbit HRL HRH
        go_wp2_with (at_builtin; refine wpList_append_own _ rfl _ _ 44 rfl (Bi + 1) 60 i0 (.agg #[.int .i64 0, .int .i64 0]) 2 16 Try.underlying44 hi0 hz0 hz1 hz2 rfl (by decide) _ _ _ rfl (((HOW.out.alloc _).alloc _).alloc _) ⟨wr.heap.size + 1 + 1, 0, none⟩ 1 1 [.int .i64 _, .int .i64 _] rfl rfl (World.news_of_block (t := 60) (fr := (0, 0)) (heap_new_at _ _ _ (by simp))) (by simp [Value.oneCell']) (by unfold maxLen; omega) (by omega) (by simp; omega) ?_)
        all_goals
          intro v' w6 hown6 hgrow _
          have hs := rrel_step (by first | exact (((Below.refl _ _).alloc (Nat.le_refl _) _).alloc (by simp) _).alloc (by simp; omega) _) HOW.out hgrow hown6 (by rw [HRL.out]; simp only [Bool.false_eq_true, if_false, if_true]; try omega) (by rw [HRH.out]; simp only [Bool.false_eq_true, if_false, if_true]; try omega) HI.out HBe.out lBi
          have HS := Lib.hid hs
          clear hs hown6 hgrow
          go_wp2_with fail
          go_roundw
          case rel => exact ⟨k + 1, by omega, by go_num, HS.out.1, HS.out.2.1, HS.out.2.2⟩
          case measure => simp [intOf]; omega
      | true =>
        rw [htb] at hbit HRL HRH
        go_wp2_with (at_builtin; refine wpList_append_own _ rfl _ _ 44 rfl (Bi + 1) 60 i0 (.agg #[.int .i64 0, .int .i64 0]) 2 16 Try.underlying44 hi0 hz0 hz1 hz2 rfl (by decide) _ _ _ rfl (((HOW.out.alloc _).alloc _).alloc _) ⟨wr.heap.size + 1 + 1, 0, none⟩ 1 1 [.int .i64 _, .int .i64 _] rfl rfl (World.news_of_block (t := 60) (fr := (0, 0)) (heap_new_at _ _ _ (by simp))) (by simp [Value.oneCell']) (by unfold maxLen; omega) (by omega) (by simp; omega) ?_)
        all_goals
          intro v' w6 hown6 hgrow _
          have hs := rrel_step (by first | exact (((Below.refl _ _).alloc (Nat.le_refl _) _).alloc (by simp) _).alloc (by simp; omega) _) HOW.out hgrow hown6 (by rw [HRL.out]; simp only [Bool.false_eq_true, if_false, if_true]; try omega) (by rw [HRH.out]; simp only [Bool.false_eq_true, if_false, if_true]; try omega) HI.out HBe.out lBi
          have HS := Lib.hid hs
          clear hs hown6 hgrow
          go_wp2_with fail
          go_roundw
          case rel => exact ⟨k + 1, by omega, by go_num, HS.out.1, HS.out.2.1, HS.out.2.2⟩
          case measure => simp [intOf]; omega
    · have hlt' : decide ((k : Int) < (n : Int)) = false := by simpa using hlt
      obtain rfl : k = n := by omega
      have hr := RangesAt.of_own hown
      have HRA := Lib.hid hr
      have HBe := Lib.hid hBe
      clear hown hr hBe
      go_wp2_with fail
      go_ret
      exact ⟨_, rfl, HRA.out, HBe.out⟩
end Go.Proofs.Ytkloaeaepjoijaa

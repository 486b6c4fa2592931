/-
  The reference: rising, Rooms.
  The reference: IsTruth.
  What an argument is in memory: nets, lists, cuts; the frame of a law's proof.
  What several laws need: few, truths that are shown.
  What several laws need: the program's calls whatever they come to; inside; more errors, wider rooms.
  Nets that the laws change: a copied list of angles, one number of it written.
  Words; Closed, plainly: what a net around a truth comes to; its rows in memory.
-/
import Derived.Test.YtkloaeaepjoijaaT07
import Derived.Test.YtkloaeaepjoijaaT10
import Derived.Below
import Derived.BigQuiet
import Derived.Carry
import Derived.ChangeOld
import Derived.Deep.Fields
import Derived.Deep.QuietTactic
import Derived.Lib.SmallJoins
import Derived.OpenShut
import Derived.Outline
import Derived.ProofKit
import Derived.ShutString
import Derived.Test.YtkloaeaepjoijaaRows
set_option linter.all false
namespace Go.Proofs.Ytkloaeaepjoijaa
section
open Go.RowKit Go.WalkArith
theorem Try.info60 : (Try.prog.info? 60).map (fun i => (i.zero, i.size, i.bytes)) = some (some (.agg #[.int .i64 0, .int .i64 0]), 2, 16) := by kernel_rfl
theorem _root_.Go.RowKit.Below.drewN {k : Nat} {w w' : World} (h : Below k w w') (n : Nat) : Below k w (w'.drewN n) := ⟨h.os, h.tape, h.output, h.size, h.block⟩
set_option maxRecDepth 100000 in
set_option maxHeartbeats 2000000 in
theorem refRising_any (v : Value) (xs : List Int) (many : Int) (w : World) (hv : IntsAt w v xs) (hn : xs.length ≤ 1000000) (h0 : 0 ≤ many) (h1 : many ≤ 5) :
    Calls Try.prog 74 #[v, .int .i64 many] w fun e w' => e = .returned (.bool (risingB xs many)) ∧ Below w.heap.size w w' := by
  obtain ⟨A, cap, rfl, hx⟩ := hv
  have HX := Lib.hid hx
  clear hx
  go_enter Try.func74, Try.ntmps74
  go_wp2_with fail
  go_loopw [5] (fun i wr => ∃ k : Nat, k ≤ xs.length ∧ i = .int .i64 k ∧ (∀ j, j < k → risesAt xs many j = true) ∧ Below w.heap.size w wr) (fun i _ => xs.length - (intOf i).toNat)
  case atStart => exact ⟨0, by omega, rfl, fun j h => by omega, Below.refl _ _⟩
  case round =>
    obtain ⟨k, hk, rfl, hno, hbe⟩ := hrel
    have HN := Lib.hid hno
    have HBE := Lib.hid hbe
    clear hno hbe
    by_cases hlt : k < xs.length
    · obtain ⟨b, o, rfl, hc⟩ := HX.out.resolve_left (fun h => by rw [h] at hlt; simp at hlt)
      have hlt' : decide ((k : Int) < (xs.length : Int)) = true := by simpa using hlt
      have ck := hc k hlt
      have hbl := World.block_lt_of_cell? w _ ck
      rw [← HBE.out.cell hbl] at ck
      obtain ⟨y, hy⟩ : ∃ y, xs[k] = y := ⟨_, rfl⟩
      rw [hy] at ck
      have hyd : xs.getD k 0 = y := by simp [hlt, hy]
      have hin := Lib.hid (fun w => refIn_any y 0 (many - 1) w)
      have wm : IntKind.i64.wrap (many - 1) = many - 1 := IntWalk.i64_in _ (by omega)
      cases hb : inB y 0 (many - 1) with
      | false =>
        rw [hb] at hin
        have hf : risingB xs many = false := risingB_no hlt (by unfold risesAt; rw [hyd, hb]; rfl)
        have HF := Lib.hid hf
        have i1 : (0 : Int) ≤ (k : Int) := by omega
        have i2 : (k : Int) < (xs.length : Int) := by omega
        clear hf hy hyd hb hc
        go_wp2_with fail
        go_quiet ((go_at_call 46; exact Calls.quiet_of_same ((hin.out _).mono fun _ _ h => ⟨h.1, h.2.symm⟩)))
        go_wp2_with fail
        go_ret
        exact ⟨by rw [HF.out]; rfl, (HBE.out.drewN _)⟩
      | true =>
        rw [hb] at hin
        by_cases hk0 : k = 0
        · subst hk0
          have hra : risesAt xs many 0 = true := by unfold risesAt; rw [hyd, hb]; rfl
          have HRA := Lib.hid hra
          have ck0 : wr.cell? ⟨b, o, none⟩ = some (.int .i64 y) := ck
          have hlt0 : decide ((0 : Int) < (xs.length : Int)) = true := by simpa using hlt
          have i2 : (0 : Int) < (xs.length : Int) := by omega
          simp only [Int.ofNat_zero]
          clear hra hy hyd hb hc ck
          go_wp2_with fail
          go_quiet ((go_at_call 46; exact Calls.quiet_of_same ((hin.out _).mono fun _ _ h => ⟨h.1, h.2.symm⟩)))
          go_wp2_with fail
          go_roundw
          case rel => exact ⟨1, by omega, rfl, fun j hj => by (obtain rfl : j = 0 := (by omega)); exact HRA.out, (HBE.out.drewN _)⟩
          case measure => simp [intOf]; omega
        · obtain ⟨m, rfl⟩ : ∃ m, k = m + 1 := ⟨k - 1, by omega⟩
          have cm := hc m (by omega)
          rw [← HBE.out.cell (p := ⟨b, o + m, none⟩) hbl] at cm
          obtain ⟨z, hz⟩ : ∃ z, xs[m] = z := ⟨_, rfl⟩
          rw [hz] at cm
          have hzd : xs.getD m 0 = z := by simp [show m < xs.length by omega, hz]
          have hpos : decide ((0 : Int) < (m : Int) + 1) = true := by rw [decide_eq_true_eq]; omega
          have hlt2 : decide ((m : Int) + 1 < (xs.length : Int)) = true := by rw [decide_eq_true_eq]; omega
          rw [show (((m + 1 : Nat)) : Int) = (m : Int) + 1 by omega]
          have i1 : (0 : Int) ≤ (m : Int) := by omega
          have i3 : (m : Int) < (xs.length : Int) := by omega
          have i4 : (0 : Int) ≤ (m : Int) + 1 := by omega
          have i5 : ((m : Int) + 1).toNat = m + 1 := by omega
          have i6 : (m : Int) + 1 - 1 = (m : Int) := by omega
          have i7 : IntKind.i64.wrap ((m : Int) + 1 - 1) = (m : Int) := (IntWalk.i64_in _ (by omega)).trans (by omega)
          have i2 : (m : Int) + 1 < (xs.length : Int) := by omega
          by_cases hzy : z < y
          · have hle : decide (y ≤ z) = false := by simp; omega
            have hra : risesAt xs many (m + 1) = true := by unfold risesAt; rw [hyd, hb, show m + 1 - 1 = m by omega, hzd]; simp [hzy]
            have HRA := Lib.hid hra
            clear hra hy hyd hb hc hz hzd
            go_wp2_with fail
            go_quiet ((go_at_call 46; exact Calls.quiet_of_same ((hin.out _).mono fun _ _ h => ⟨h.1, h.2.symm⟩)))
            go_wp2_with fail
            go_roundw
            case rel => exact ⟨m + 1 + 1, by omega, by go_num, fun j hj => by
              by_cases e : j = m + 1
              · rw [e]; exact HRA.out
              · exact HN.out j (by omega), (HBE.out.drewN _)⟩
            case measure => simp [intOf]; omega
          · have hle : decide (y ≤ z) = true := by simp; omega
            have hf : risingB xs many = false := risingB_no hlt (by unfold risesAt; rw [hyd, hb, show m + 1 - 1 = m by omega, hzd]; simp [hzy])
            have HF := Lib.hid hf
            clear hf hy hyd hb hc hz hzd
            go_wp2_with fail
            go_quiet ((go_at_call 46; exact Calls.quiet_of_same ((hin.out _).mono fun _ _ h => ⟨h.1, h.2.symm⟩)))
            go_wp2_with fail
            go_ret
            exact ⟨by rw [HF.out]; rfl, (HBE.out.drewN _)⟩
    · have hlt' : decide ((k : Int) < (xs.length : Int)) = false := by simpa using hlt
      have hf : risingB xs many = true := risingB_yes fun j hj => HN.out j (by omega)
      have HF := Lib.hid hf
      clear hf
      go_wp2_with fail
      go_ret
      exact ⟨by rw [HF.out]; rfl, HBE.out⟩
/-- The numbers of bits. -/
def bitsL (bits : Nat) : List Int := ((List.range 16).filter bits.testBit).map fun i : Nat => (i : Int)
theorem bitsL_has {bits i : Nat} (h : i < 16) : (bitsL bits).contains (i : Int) = bits.testBit i := by
  rw [Bool.eq_iff_iff]
  simp only [bitsL, List.contains_iff_mem, List.mem_map, List.mem_filter, List.mem_range]
  constructor
  · rintro ⟨j, ⟨_, hj⟩, e⟩
    obtain rfl : j = i := by omega
    exact hj
  · intro hb; exact ⟨i, ⟨h, hb⟩, rfl⟩
def RRel (l : List Ang) (err : Int) (out : List Int) (n base : Nat) (w : World) (Bi : Nat) (net : Obj) (v i : Value) (wr : World) : Prop :=
  ∃ k : Nat, k ≤ n ∧ i = .int .i64 k ∧ wr.heap[Bi]? = some net ∧ wr.ownsRow base 60 2 v k (flatR (roomLo l err out) (roomHi l err out) k) ∧ Below w.heap.size w wr
theorem rrel_step {l : List Ang} {err : Int} {out : List Int} {w wr X w6 : World} {Bi k : Nat} {net : Obj} {v v' : Value} {L H : Int} (hBX : Below wr.heap.size wr X) (how : wr.ownsRow (Bi + 1) 60 2 v k (flatR (roomLo l err out) (roomHi l err out) k))
    (hgrow : X.grownBy w6 v.ownBlock) (hown6 : w6.ownsRow (Bi + 1) 60 2 v' (k + 1) (flatR (roomLo l err out) (roomHi l err out) k ++ [.int .i64 L, .int .i64 H])) (hL : roomLo l err out k = L) (hH : roomHi l err out k = H) (hI : wr.heap[Bi]? = some net) (hBe : Below w.heap.size w wr) (hlt : Bi < wr.heap.size) (ho : w.heap.size ≤ Bi := by omega) :
    w6.heap[Bi]? = some net ∧ w6.ownsRow (Bi + 1) 60 2 v' (k + 1) (flatR (roomLo l err out) (roomHi l err out) (k + 1)) ∧ Below w.heap.size w w6 := by
  have hbs := hBX.size
  have hb : ∀ j, j ≤ Bi → w6.heap[j]? = wr.heap[j]? := fun j hj => (hgrow.block j (by omega) (fun e => by have := how.lt j e.symm; omega)).trans (hBX.block j (by omega))
  refine ⟨(hb Bi (Nat.le_refl _)).trans hI, by rw [flatR_succ, hL, hH]; exact hown6, ?_⟩
  have h1 := hBe.trans (hBX.mono hBe.size)
  exact ⟨hgrow.os.trans h1.os, hgrow.tape.trans h1.tape, hgrow.output.trans h1.output, Nat.le_trans h1.size hgrow.size, fun j hj => (hb j (by omega)).trans (hBe.block j hj)⟩
set_option maxRecDepth 100000 in
set_option maxHeartbeats 4000000 in
theorem refRooms_any (b o n cap : Nat) (T C err : Int) (l : List Ang) (bits : Nat) (w : World) (hl : l.length = n) (hok : NetOk l T C) (hA : AngsAt w (some ⟨b, o, none⟩) l) (he0 : 0 ≤ err) (he1 : err ≤ 40) (hbits : bits < 65536) :
    Calls Try.prog 30 #[.agg #[.slice (some ⟨b, o, none⟩) n cap, .int .i64 T, .int .i64 C], .int .i64 err, .int .i64 bits] w fun e w' => ∃ v, e = .returned v ∧ RangesAt w' v n (roomLo l err (bitsL bits)) (roomHi l err (bitsL bits)) ∧ Below w.heap.size w w' := by
  obtain ⟨i0, hi0, hz0, hz1, hz2⟩ := info_parts Try.info60
  have hB : Below w.heap.size w (w.alloc (.cells #[.slice (some ⟨b, o, none⟩) n cap, .int .i64 T, .int .i64 C] 24)) := (Below.refl _ _).alloc (Nat.le_refl _) _
  have hn0 := Go.heap_alloc_new w (.cells #[.slice (some ⟨b, o, none⟩) n cap, .int .i64 T, .int .i64 C] 24)
  have HB := Lib.hid hB
  have HN := Lib.hid hn0
  have HA := Lib.hid hA
  have HL := Lib.hid hl
  have HO := Lib.hid hok
  have hn12 : n ≤ 12 := by rw [← hl]; exact hok.len
  clear hB hn0 hA hl hok
  go_enter Try.func30, Try.ntmps30
  go_wp2_with fail
  generalize w.alloc (.cells #[.slice (some ⟨b, o, none⟩) n cap, .int .i64 T, .int .i64 C] 24) = w1 at HB HN ⊢
  obtain ⟨Bi, hBi⟩ : ∃ Bi, w.heap.size = Bi := ⟨_, rfl⟩
  have o1 : w.heap.size ≤ Bi := by omega
  rw [hBi] at HN ⊢
  clear hBi
  go_loopw [7, 8] (RRel l err (bitsL bits) n (Bi + 1) w Bi (.cells #[.slice (some ⟨b, o, none⟩) n cap, .int .i64 T, .int .i64 C] 24 (0, 0))) (fun _ i _ => n - (intOf i).toNat)
  case atStart => exact ⟨0, by omega, rfl, HN.out, World.ownsRow_nil _ _ _ _, HB.out⟩
  case round =>
    clear HB HN
    obtain ⟨k, hk, rfl, hI, hown, hBe⟩ := hrel
    have x0 : wr.cell? ⟨Bi, 0, none⟩ = some (.slice (some ⟨b, o, none⟩) n cap) := by simp [World.cell?, hI]
    have lBi : Bi < wr.heap.size := (Array.getElem?_eq_some_iff.1 hI).1
    by_cases hlt : k < n
    · have hlt' : decide ((k : Int) < (n : Int)) = true := by simpa using hlt
      have hlk : k < l.length := by rw [HL.out]; exact hlt
      have hAw := HA.out.keep hBe (Nat.le_refl _)
      obtain ⟨b', o', hAe, hAs⟩ := hAw.resolve_left (fun h => by rw [h] at hlk; simp at hlk)
      obtain ⟨rfl, rfl⟩ : b = b' ∧ o = o' := by simpa using hAe
      obtain ⟨ak0, ak1, ak2, ak3⟩ := hAs k hlk
      have han := HO.out.ang l[k] (List.getElem_mem hlk)
      have hrl := roomLo_at hlk err (bitsL bits)
      have hrh := roomHi_at hlk err (bitsL bits)
      rw [bitsL_has (by omega)] at hrl hrh
      obtain ⟨a, ha⟩ : ∃ a, l[k] = a := ⟨_, rfl⟩
      rw [ha] at ak0 ak1 ak2 ak3 han hrl hrh
      have HRL := Lib.hid hrl
      have HRH := Lib.hid hrh
      have hm0 : 0 ≤ err * a.g := Int.mul_nonneg he0 (by omega)
      have hm1 : err * a.g ≤ 120 := by
        have : err * a.g ≤ 40 * a.g := Int.mul_le_mul_of_nonneg_right he1 (by omega)
        omega
      have HI := Lib.hid hI
      have HOW := Lib.hid hown
      have HBe := Lib.hid hBe
      have i1 : (0 : Int) ≤ (k : Int) := by omega
      have i2 : (k : Int) < (n : Int) := by omega
      obtain ⟨wid, hwid⟩ : ∃ wid, err * a.g = wid := ⟨_, rfl⟩
      rw [hwid] at HRL HRH hm0 hm1
      have hbit := bit_at bits k
      obtain ⟨Av, capv, rfl⟩ := own_slice hown
      clear hI hown hBe ha hAs hAe hAw hrl hrh
      cases htb : bits.testBit k with
      | false =>
        rw [htb] at hbit HRL HRH
        go_wp2_with (at_builtin; refine wpList_append_own _ rfl _ _ 44 rfl (Bi + 1) 60 i0 (.agg #[.int .i64 0, .int .i64 0]) 2 16 Try.underlying44 hi0 hz0 hz1 hz2 rfl (by decide) _ _ _ rfl (((HOW.out.alloc _).alloc _).alloc _) ⟨wr.heap.size + 1 + 1, 0, none⟩ 1 1 [.int .i64 _, .int .i64 _] rfl rfl (World.news_of_block (t := 60) (fr := (0, 0)) (heap_new_at _ _ _ (by simp))) (by simp [Value.oneCell']) (by unfold maxLen; omega) (by omega) (by simp; omega) ?_)
        all_goals
          intro v' w6 hown6 hgrow _
          have hs := rrel_step (by first | exact (((Below.refl _ _).alloc (Nat.le_refl _) _).alloc (by simp) _).alloc (by simp; omega) _) HOW.out hgrow hown6 (by rw [HRL.out]; simp only [Bool.false_eq_true, if_false, if_true]; try omega) (by rw [HRH.out]; simp only [Bool.false_eq_true, if_false, if_true]; try omega) HI.out HBe.out lBi
          have HS := Lib.hid hs
          clear hs hown6 hgrow
          go_wp2_with fail
          go_roundw
          case rel => exact ⟨k + 1, by omega, by go_num, HS.out.1, HS.out.2.1, HS.out.2.2⟩
          case measure => simp [intOf]; omega
      | true =>
        rw [htb] at hbit HRL HRH
        go_wp2_with (at_builtin; refine wpList_append_own _ rfl _ _ 44 rfl (Bi + 1) 60 i0 (.agg #[.int .i64 0, .int .i64 0]) 2 16 Try.underlying44 hi0 hz0 hz1 hz2 rfl (by decide) _ _ _ rfl (((HOW.out.alloc _).alloc _).alloc _) ⟨wr.heap.size + 1 + 1, 0, none⟩ 1 1 [.int .i64 _, .int .i64 _] rfl rfl (World.news_of_block (t := 60) (fr := (0, 0)) (heap_new_at _ _ _ (by simp))) (by simp [Value.oneCell']) (by unfold maxLen; omega) (by omega) (by simp; omega) ?_)
        all_goals
          intro v' w6 hown6 hgrow _
          have hs := rrel_step (by first | exact (((Below.refl _ _).alloc (Nat.le_refl _) _).alloc (by simp) _).alloc (by simp; omega) _) HOW.out hgrow hown6 (by rw [HRL.out]; simp only [Bool.false_eq_true, if_false, if_true]; try omega) (by rw [HRH.out]; simp only [Bool.false_eq_true, if_false, if_true]; try omega) HI.out HBe.out lBi
          have HS := Lib.hid hs
          clear hs hown6 hgrow
          go_wp2_with fail
          go_roundw
          case rel => exact ⟨k + 1, by omega, by go_num, HS.out.1, HS.out.2.1, HS.out.2.2⟩
          case measure => simp [intOf]; omega
    · have hlt' : decide ((k : Int) < (n : Int)) = false := by simpa using hlt
      obtain rfl : k = n := by omega
      have hr := RangesAt.of_own hown
      have HRA := Lib.hid hr
      have HBe := Lib.hid hBe
      clear hown hr hBe
      go_wp2_with fail
      go_ret
      exact ⟨_, rfl, HRA.out, HBe.out⟩
end
end Go.Proofs.Ytkloaeaepjoijaa
namespace Go.Proofs.Ytkloaeaepjoijaa
section
open Go.RowKit Go.WalkArith
/-- Block B is a row of five integers. -/
def FiveAt (W : World) (B : Nat) (g : Int → Int) : Prop :=
  ∃ cs, W.heap[B]? = some (.cells cs 117 (0, 0)) ∧ cs.size = 5 ∧ ∀ i : Nat, i < 5 → cs[i]? = some (.int .i64 (g i))
section
variable {W W' : World} {B : Nat} {g : Int → Int}
theorem FiveAt.cell (h : FiveAt W B g) {i : Nat} (hi : i < 5) : W.cell? ⟨B, i, none⟩ = some (.int .i64 (g i)) := by
  obtain ⟨cs, hb, hs, hc⟩ := h
  simp [World.cell?, hb, hc i hi]
theorem FiveAt.frozen (h : FiveAt W B g) (i : Nat) : W.frozen? ⟨B, i, none⟩ = false := by
  obtain ⟨cs, hb, hs, hc⟩ := h
  simp [World.frozen?, hb]
theorem FiveAt.of_block (h : FiveAt W B g) (hb : W'.heap[B]? = W.heap[B]?) : FiveAt W' B g := by
  obtain ⟨cs, h1, h2⟩ := h
  exact ⟨cs, hb.trans h1, h2⟩
theorem FiveAt.congr {g' : Int → Int} (h : FiveAt W B g) (he : ∀ i : Nat, i < 5 → g' i = g i) : FiveAt W B g' := by
  obtain ⟨cs, h1, h2, h3⟩ := h
  exact ⟨cs, h1, h2, fun i hi => by rw [he i hi]; exact h3 i hi⟩
theorem FiveAt.set (h : FiveAt W B g) {v : Nat} (x : Int) (hv : v < 5) : FiveAt (W.setCell ⟨B, v, none⟩ (.int .i64 x)) B (updG g v x) := by
  obtain ⟨cs, hb, hs, hc⟩ := h
  refine ⟨cs.setIfInBounds v (.int .i64 x), ?_, by simp [hs], fun i hi => ?_⟩
  · simp [World.setCell, Array.getElem?_modify, hb]
  · rw [Array.getElem?_setIfInBounds]
    by_cases e : v = i
    · subst e; simp [hs, hv, updG]
    · rw [if_neg e, hc i hi]
      unfold updG
      rw [if_neg (by omega)]
end
/-- What comes together at a triangle, at a circle. -/
def triS (l : List Ang) (x : Int → Int) (k : Nat) (v : Int) : Int := sumR k fun i => if tOf l i = v then x i else 0
def cirS (l : List Ang) (x : Int → Int) (k : Nat) (v : Int) : Int := sumR k fun i => if cOf l i = v then x i else 0
theorem tri_sums {l : List Ang} {T C : Int} (hok : NetOk l T C) (x : Int → Int) {v : Nat} (hv : v < 5) : triS l x l.length v = sumsP l x l.length v := by
  unfold triS sumsP
  refine sumR_congr fun i hi => ?_
  have ha := hok.ang l[i] (List.getElem_mem hi)
  have hto := hok.to hi
  have ht1 := hok.t1
  rw [if_neg (show ¬ toL l i = (v : Int) by omega), frL_at hi, tOf_at hi]
  unfold nodeOf
  by_cases e : l[i].t = v
  · rw [if_pos e, if_neg (show ¬ l[i].t = -1 by omega), if_pos (show 0 + l[i].t = (v : Int) by omega)]; omega
  · rw [if_neg e]
    by_cases e2 : l[i].t = -1
    · rw [if_pos e2, if_neg (show ¬ (10 : Int) = (v : Int) by omega)]; rfl
    · rw [if_neg e2, if_neg (show ¬ 0 + l[i].t = (v : Int) by omega)]; rfl
theorem cir_sums {l : List Ang} {T C : Int} (hok : NetOk l T C) (x : Int → Int) {v : Nat} (hv : v < 5) : cirS l x l.length v = sumsP l x l.length (5 + v) := by
  unfold cirS sumsP
  refine sumR_congr fun i hi => ?_
  have ha := hok.ang l[i] (List.getElem_mem hi)
  have hfr := hok.fr hi
  have ht1 := hok.t1
  rw [if_neg (show ¬ frL l i = 5 + (v : Int) by omega), toL_at hi, cOf_at hi]
  unfold nodeOf
  by_cases e : l[i].c = v
  · rw [if_pos e, if_neg (show ¬ l[i].c = -1 by omega), if_pos (show 5 + l[i].c = 5 + (v : Int) by omega)]; omega
  · rw [if_neg e]
    by_cases e2 : l[i].c = -1
    · rw [if_pos e2, if_neg (show ¬ (10 : Int) = 5 + (v : Int) by omega)]; rfl
    · rw [if_neg e2, if_neg (show ¬ 5 + l[i].c = 5 + (v : Int) by omega)]; rfl
theorem triS_bd (f : Int → Int) (x : Int → Int) (v : Int) : ∀ k : Nat, (∀ i : Nat, i < k → 0 ≤ x i ∧ x i ≤ 40) → 0 ≤ sumR k (fun i => if f i = v then x i else 0) ∧ sumR k (fun i => if f i = v then x i else 0) ≤ 40 * (k : Int) := by
  intro k
  induction k with
  | zero => intro _; simp [sumR]
  | succ k ih =>
    intro h
    have h1 := ih (fun i hi => h i (by omega))
    have h2 := h k (by omega)
    simp only [sumR]
    split <;> omega
/-- A list is a truth, apart from the net's faults. -/
def isTruthB (l : List Ang) (T C err : Int) (xs : List Int) : Bool := decide (xs.length = l.length) && (roomsB l err (fnOf xs) l.length && sumsB l T C (fnOf xs))
theorem truthB_is {l : List Ang} {T C err : Int} {xs : List Int} : truthB l T C err xs = (decide (askedL l T C err = 0) && isTruthB l T C err xs) := rfl
def five (l : List Ang) (T C : Int) (x : Int → Int) (j : Nat) : Bool := (decide ((j : Int) < T) && triS l x l.length j != 36) || (decide ((j : Int) < C) && cirS l x l.length j != 72)
theorem sums_five {l : List Ang} {T C : Int} (hok : NetOk l T C) (x : Int → Int) : sumsB l T C x = true ↔ ∀ j : Nat, j < 5 → five l T C x j = false := by
  have ht1 := hok.t1
  have hc1 := hok.c1
  unfold sumsB five
  simp only [List.all_eq_true, List.mem_range, Bool.and_eq_true, beq_iff_eq, Bool.or_eq_false_iff, Bool.and_eq_false_iff, decide_eq_false_iff_not, bne_eq_false_iff_eq]
  constructor
  · rintro ⟨h1, h2⟩ j hj
    constructor
    · by_cases h : (j : Int) < T
      · exact .inr (by rw [tri_sums hok x hj]; exact h1 j (by omega))
      · exact .inl h
    · by_cases h : (j : Int) < C
      · exact .inr (by rw [cir_sums hok x hj]; exact h2 j (by omega))
      · exact .inl h
  · intro h
    refine ⟨fun t ht => ?_, fun c hc => ?_⟩
    · rcases (h t (by omega)).1 with h1 | h1
      · omega
      · rw [← tri_sums hok x (by omega)]; exact h1
    · rcases (h c (by omega)).2 with h1 | h1
      · omega
      · rw [← cir_sums hok x (by omega)]; exact h1
def zeros5 : Array Value := #[.int .i64 0, .int .i64 0, .int .i64 0, .int .i64 0, .int .i64 0]
theorem five_zero {W : World} {B : Nat} (h : W.heap[B]? = some (.cells zeros5 117 (0, 0))) : FiveAt W B (fun _ => 0) :=
  ⟨zeros5, h, rfl, fun i hi => by obtain rfl | rfl | rfl | rfl | rfl : i = 0 ∨ i = 1 ∨ i = 2 ∨ i = 3 ∨ i = 4 := (by omega)
                                  all_goals rfl⟩
def IRel (l : List Ang) (err : Int) (x : Int → Int) (n : Nat) (w : World) (Bi Bt Bc : Nat) (net : Obj) (i : Value) (wr : World) : Prop :=
  ∃ k : Nat, k ≤ n ∧ i = .int .i64 k ∧ roomsB l err x k = true ∧ FiveAt wr Bt (triS l x k) ∧ FiveAt wr Bc (cirS l x k) ∧ wr.heap[Bi]? = some net ∧ Below w.heap.size w wr
set_option maxRecDepth 100000 in
set_option maxHeartbeats 4000000 in
theorem refIsTruth_any (b o n cap : Nat) (T C err : Int) (l : List Ang) (rv tv : Value) (xs : List Int) (w : World) (hl : l.length = n) (hok : NetOk l T C) (hA : AngsAt w (some ⟨b, o, none⟩) l) (he0 : 0 ≤ err) (hr : RangesAt w rv n (roomLo l err []) (roomHi l err [])) (ht : IntsAt w tv xs) :
    Calls Try.prog 29 #[.agg #[.slice (some ⟨b, o, none⟩) n cap, .int .i64 T, .int .i64 C], rv, tv] w fun e w' => e = .returned (.bool (isTruthB l T C err xs)) ∧ Below w.heap.size w w' := by
  obtain ⟨Ar, rcap, rfl, hrc⟩ := hr
  obtain ⟨At, tcap, rfl, htx⟩ := ht
  have hn12 : n ≤ 12 := by rw [← hl]; exact hok.len
  by_cases hlen : xs.length = n
  · have hpos : 0 < n := by rw [← hl]; exact hok.pos
    obtain ⟨rb, ro, rfl, hrc2⟩ := hrc.resolve_left (by omega)
    obtain ⟨tb, tf, rfl, htc⟩ := htx.resolve_left (fun h => by rw [h] at hlen; simp at hlen; omega)
    have hxs : ∀ i : Nat, i < n → w.cell? ⟨tb, tf + i, none⟩ = some (.int .i64 (fnOf xs i)) := fun i hi => by rw [htc i (by omega), fnOf_at (by omega)]
    have hisb : isTruthB l T C err xs = (roomsB l err (fnOf xs) n && sumsB l T C (fnOf xs)) := by unfold isTruthB; rw [hl, decide_eq_true hlen, Bool.true_and]
    have HIS := Lib.hid hisb
    have HXS := Lib.hid hxs
    have HRC := Lib.hid hrc2
    have HA := Lib.hid hA
    have HL := Lib.hid hl
    have HO := Lib.hid hok
    have hneq : ((n : Int) != (n : Int)) = false := by simp
    rw [hlen]
    obtain ⟨x, hx⟩ : ∃ x, fnOf xs = x := ⟨_, rfl⟩
    rw [hx] at HIS HXS
    clear hx hisb hxs hrc2 hrc htc htx hA hl hok hlen
    go_enter Try.func29, Try.ntmps29
    go_wp2_with fail
    have hB : Below w.heap.size w (((w.alloc (.cells #[.slice (some ⟨b, o, none⟩) n cap, .int .i64 T, .int .i64 C] 24)).alloc (.cells zeros5 117)).alloc (.cells zeros5 117)) := (((Below.refl _ _).alloc (Nat.le_refl _) _).alloc (by simp) _).alloc (by simp; omega) _
    have h0 : (((w.alloc (.cells #[.slice (some ⟨b, o, none⟩) n cap, .int .i64 T, .int .i64 C] 24)).alloc (.cells zeros5 117)).alloc (.cells zeros5 117)).heap[w.heap.size]? = some (.cells #[.slice (some ⟨b, o, none⟩) n cap, .int .i64 T, .int .i64 C] 24 (0, 0)) := by
      rw [Below.heap_alloc _ _ _ (by simp; try omega), Below.heap_alloc _ _ _ (by simp)]; exact heap_new_at _ _ _ rfl
    have h1 : (((w.alloc (.cells #[.slice (some ⟨b, o, none⟩) n cap, .int .i64 T, .int .i64 C] 24)).alloc (.cells zeros5 117)).alloc (.cells zeros5 117)).heap[w.heap.size + 1]? = some (.cells zeros5 117 (0, 0)) := by
      rw [Below.heap_alloc _ _ _ (by simp)]; exact heap_new_at _ _ _ (by simp)
    have h2 : (((w.alloc (.cells #[.slice (some ⟨b, o, none⟩) n cap, .int .i64 T, .int .i64 C] 24)).alloc (.cells zeros5 117)).alloc (.cells zeros5 117)).heap[w.heap.size + 1 + 1]? = some (.cells zeros5 117 (0, 0)) := heap_new_at _ _ _ (by simp)
    have HB := Lib.hid hB
    have H0 := Lib.hid h0
    have H1 := Lib.hid (five_zero h1)
    have H2 := Lib.hid (five_zero h2)
    clear hB h0 h1 h2
    unfold zeros5 at HB H0 H1 H2
    generalize ((w.alloc (.cells #[.slice (some ⟨b, o, none⟩) n cap, .int .i64 T, .int .i64 C] 24)).alloc _).alloc _ = w1 at HB H0 H1 H2 ⊢
    obtain ⟨Bi, hBi⟩ : ∃ Bi, w.heap.size = Bi := ⟨_, rfl⟩
    obtain ⟨Bt, hBt⟩ : ∃ Bt, w.heap.size + 1 = Bt := ⟨_, rfl⟩
    obtain ⟨Bc, hBc⟩ : ∃ Bc, w.heap.size + 1 + 1 = Bc := ⟨_, rfl⟩
    have o1 : w.heap.size ≤ Bi := by omega
    have o2 : Bi < Bt := by omega
    have o3 : Bt < Bc := by omega
    rw [hBc] at H2 ⊢
    rw [hBt] at H1 ⊢
    rw [hBi] at H0 ⊢
    clear hBi hBt hBc
    go_loopw [9] (IRel l err x n w Bi Bt Bc (.cells #[.slice (some ⟨b, o, none⟩) n cap, .int .i64 T, .int .i64 C] 24 (0, 0))) (fun i _ => n - (intOf i).toNat)
    case atStart => exact ⟨0, by omega, rfl, rfl, H1.out.congr (fun i _ => rfl), H2.out.congr (fun i _ => rfl), H0.out, HB.out⟩
    case round =>
      clear HB H0 H1 H2
      obtain ⟨k, hk, rfl, hro, hS, hK, hI, hBe⟩ := hrel
      by_cases hlt : k < n
      · have hlt' : decide ((k : Int) < (n : Int)) = true := by simpa using hlt
        have hlk : k < l.length := by rw [HL.out]; exact hlt
        have hAw := HA.out.keep hBe (Nat.le_refl _)
        obtain ⟨b', o', hAe, hAs⟩ := hAw.resolve_left (fun h => by rw [h] at hlk; simp at hlk)
        obtain ⟨rfl, rfl⟩ : b = b' ∧ o = o' := by simpa using hAe
        obtain ⟨ak0, ak1, ak2, ak3⟩ := hAs k hlk
        have han := HO.out.ang l[k] (List.getElem_mem hlk)
        have htk := tOf_at hlk
        have hck := cOf_at hlk
        obtain ⟨a, ha⟩ : ∃ a, l[k] = a := ⟨_, rfl⟩
        rw [ha] at ak0 ak1 han htk hck
        have ht1 := HO.out.t1
        have hc1 := HO.out.c1
        have r0 := (HRC.out k hlt).1
        have r1 := (HRC.out k hlt).2
        have q0 := HXS.out k hlt
        have hrbl := World.block_lt_of_cell? w _ r0
        have hqbl := World.block_lt_of_cell? w _ q0
        rw [← hBe.cell (p := ⟨rb, ro + k * 2, none⟩) hrbl] at r0
        rw [← hBe.cell (p := ⟨rb, ro + k * 2 + 1, none⟩) hrbl] at r1
        rw [← hBe.cell (p := ⟨tb, tf + k, none⟩) hqbl] at q0
        have x0 : wr.cell? ⟨Bi, 0, none⟩ = some (.slice (some ⟨b, o, none⟩) n cap) := by simp [World.cell?, hI]
        have hrk := rooms_ok HO.out he0 []
        have hlo := hrk.lo0 k hlk
        have hhi := hrk.hi1 k hlk
        have hxall : ∀ i : Nat, i < k → 0 ≤ x i ∧ x i ≤ 40 := fun i hi => by
          have h1 : inB (x i) (roomLo l err [] i) (roomHi l err [] i) = true := by
            have := hro
            unfold roomsB at this
            exact List.all_eq_true.1 this i (List.mem_range.2 hi)
          have h2 := inB_true.1 h1
          have a1 := hrk.lo0 i (by omega)
          have a2 := hrk.hi1 i (by omega)
          omega
        have hbt := fun v => triS_bd (tOf l) x v k hxall
        have hbc := fun v => triS_bd (cOf l) x v k hxall
        have hst : ∀ v, triS l x (k + 1) v = triS l x k v + (if a.t = v then x k else 0) := fun v => by rw [← htk]; rfl
        have hsc : ∀ v, cirS l x (k + 1) v = cirS l x k v + (if a.c = v then x k else 0) := fun v => by rw [← hck]; rfl
        obtain ⟨L, hL⟩ : ∃ L, roomLo l err [] k = L := ⟨_, rfl⟩
        obtain ⟨H, hH⟩ : ∃ H, roomHi l err [] k = H := ⟨_, rfl⟩
        obtain ⟨X, hX⟩ : ∃ X, x k = X := ⟨_, rfl⟩
        rw [hL] at r0 hlo
        rw [hH] at r1 hhi
        rw [hX] at q0 hst hsc
        have HRO := Lib.hid hro
        have HS := Lib.hid hS
        have HK := Lib.hid hK
        have HI := Lib.hid hI
        have HBe := Lib.hid hBe
        have HL2 := Lib.hid hL
        have HH2 := Lib.hid hH
        have HX2 := Lib.hid hX
        have HST := Lib.hid hst
        have HSC := Lib.hid hsc
        have HBT := Lib.hid hbt
        have HBC := Lib.hid hbc
        have i1 : (0 : Int) ≤ (k : Int) := by omega
        have i2 : (k : Int) < (n : Int) := by omega
        have i3 : (k : Int) < (xs.length : Int) → True := fun _ => trivial
        clear hro hS hK hI hBe hL hH hX hst hsc hbt hbc hxall hrk htk hck ha hAs hAe hAw i3
        have hin := Lib.hid (fun w => refIn_any X L H w)
        cases hb : inB X L H with
        | false =>
          rw [hb] at hin
          have hrf : roomsB l err x n = false := roomsB_false hlt (by rw [HL2.out, HH2.out, HX2.out]; exact hb)
          have HRF := Lib.hid hrf
          clear hrf hb
          go_wp2_with fail
          go_region_held3 (fun Y => Y.cell? ⟨rb, ro + k * 2, none⟩ = some (.int .i64 L) ∧ Y.cell? ⟨rb, ro + k * 2 + 1, none⟩ = some (.int .i64 H) ∧ Y.cell? ⟨tb, tf + k, none⟩ = some (.int .i64 X)) (go_keep) (first | (go_at_call 46; refine (hin.out _).mono ?_; rintro e w' ⟨rfl, rfl⟩))
          go_wp2_with fail
          go_ret
          exact ⟨by rw [HIS.out, HRF.out]; rfl, HBe.out.drew⟩
        | true =>
          rw [hb] at hin
          have hin2 := inB_true.1 hb
          have hrs1 : roomsB l err x (k + 1) = true := by rw [roomsB_succ, HRO.out, HL2.out, HH2.out, HX2.out, hb]; rfl
          have HRS1 := Lib.hid hrs1
          clear hrs1 hb
          go_wp2_with fail
          go_region_held3 (fun Y => Y.cell? ⟨rb, ro + k * 2, none⟩ = some (.int .i64 L) ∧ Y.cell? ⟨rb, ro + k * 2 + 1, none⟩ = some (.int .i64 H) ∧ Y.cell? ⟨tb, tf + k, none⟩ = some (.int .i64 X)) (go_keep) (first | (go_at_call 46; refine (hin.out _).mono ?_; rintro e w' ⟨rfl, rfl⟩))
          obtain ⟨w4, hw4⟩ : ∃ w4, wr.drew = w4 := ⟨_, rfl⟩
          have hS4 : FiveAt w4 Bt (triS l x k) := HS.out.of_block (by rw [← hw4]; rfl)
          have hK4 : FiveAt w4 Bc (cirS l x k) := HK.out.of_block (by rw [← hw4]; rfl)
          have hI4 := HI.out
          rw [show wr.heap = w4.heap by rw [← hw4]; rfl] at hI4
          have hB4 : Below w.heap.size w w4 := by rw [← hw4]; exact HBe.out.drew
          have g0 : w4.cell? ⟨b, o + k * 4, none⟩ = some (.int .i64 a.t) := by rw [← hw4]; exact ak0
          have g1 : w4.cell? ⟨b, o + k * 4 + 1, none⟩ = some (.int .i64 a.c) := by rw [← hw4]; exact ak1
          have g2 : w4.cell? ⟨tb, tf + k, none⟩ = some (.int .i64 X) := by rw [← hw4]; exact q0
          have g3 : w4.cell? ⟨Bi, 0, none⟩ = some (.slice (some ⟨b, o, none⟩) n cap) := by rw [← hw4]; exact x0
          have hbb := World.block_lt_of_cell? w4 _ g0
          have hbl : b < w.heap.size := by
            obtain ⟨b', o', hAe, hAs⟩ := HA.out.resolve_left (fun h => by rw [h] at hlk; simp at hlk)
            obtain ⟨rfl, rfl⟩ : b = b' ∧ o = o' := by simpa using hAe
            exact World.block_lt_of_cell? w _ (hAs k hlk).1
          rw [hw4]
          have HS4 := Lib.hid hS4
          have HK4 := Lib.hid hK4
          have HI4 := Lib.hid hI4
          have HB4 := Lib.hid hB4
          clear hS4 hK4 hI4 hB4 HS HK HI HBe ak0 ak1 ak2 ak3 r0 r1 q0 x0 hw4 hin hbb
          by_cases ht : 0 ≤ a.t
          · obtain ⟨p, hp⟩ : ∃ p : Nat, a.t = p := ⟨a.t.toNat, by omega⟩
            have hbp := HBT.out p
            have hst2 := fun v => HST.out v
            rw [hp] at hst2 g0 ht
            have hd : decide ((0 : Int) ≤ (p : Int)) = true := by simp
            have p5 : p < 5 := by omega
            have c0 := HS4.out.cell p5
            have z0 := HS4.out.frozen p
            have i3 : (0 : Int) ≤ (p : Int) := by omega
            have i4 : (p : Int) < 5 := by omega
            obtain ⟨G, hG⟩ : ∃ G, triS l x k p = G := ⟨_, rfl⟩
            have hbp2 : 0 ≤ G ∧ G ≤ 40 * (k : Int) := by rw [← hG]; exact hbp
            rw [hG] at c0
            have HG := Lib.hid hG
            have HST2 := Lib.hid hst2
            clear hG hst2 hbp
            have wp1 : IntKind.i64.wrap (G + X) = G + X := IntWalk.i64_in _ (by omega)
            go_wp2_with fail
            go_region
            have hs7 : ∀ j, j ≠ Bt → (w4.setCell ⟨Bt, p, none⟩ (.int .i64 (G + X))).drew.heap[j]? = w4.heap[j]? := fun j hj => Below.heap_setCell _ _ _ _ hj
            have hS7 := (HS4.out.set (v := p) (G + X) p5).of_block (W' := (w4.setCell ⟨Bt, p, none⟩ (.int .i64 (G + X))).drew) rfl
            have hK7 := HK4.out.of_block (hs7 Bc (by omega))
            have hI7 := (hs7 Bi (by omega)).trans HI4.out
            have hB7 : Below w.heap.size w (w4.setCell ⟨Bt, p, none⟩ (.int .i64 (G + X))).drew := (HB4.out.setCell (by simp; omega) _).drew
            have f1 := (cell_block (p := ⟨b, o + k * 4 + 1, none⟩) (hs7 b (by omega))).trans g1
            have f2 := (cell_block (p := ⟨tb, tf + k, none⟩) (hs7 tb (by omega))).trans g2
            have f3 := (cell_block (p := ⟨Bi, 0, none⟩) (hs7 Bi (by omega))).trans g3
            clear hs7
            generalize (w4.setCell ⟨Bt, p, none⟩ (.int .i64 (G + X))).drew = w5 at hS7 hK7 hI7 hB7 f1 f2 f3 ⊢
            have hS8 : FiveAt w5 Bt (triS l x (k + 1)) := hS7.congr (fun i _ => by
              rw [HST2.out]; unfold updG
              by_cases e : (i : Int) = p
              · rw [if_pos e, if_pos e.symm, e, HG.out]
              · rw [if_neg e, if_neg (fun h => e h.symm)]; omega)
            have HS5 := Lib.hid hS8
            have HK5 := Lib.hid hK7
            have HI5 := Lib.hid hI7
            have HB5 := Lib.hid hB7
            clear hS7 hS8 hK7 hI7 hB7 HS4 HK4 HI4 HB4 g0 g1 g2 g3 c0 z0 wp1 HG HST2 hd
            by_cases hc : 0 ≤ a.c
            · obtain ⟨q, hq⟩ : ∃ q : Nat, a.c = q := ⟨a.c.toNat, by omega⟩
              have hbq := HBC.out q
              have hsc2 := fun v => HSC.out v
              rw [hq] at hsc2 f1 hc
              have he : decide ((0 : Int) ≤ (q : Int)) = true := by simp
              have q5 : q < 5 := by omega
              have c0 := HK5.out.cell q5
              have z0 := HK5.out.frozen q
              have i5 : (0 : Int) ≤ (q : Int) := by omega
              have i6 : (q : Int) < 5 := by omega
              obtain ⟨G, hG⟩ : ∃ G, cirS l x k q = G := ⟨_, rfl⟩
              have hbq2 : 0 ≤ G ∧ G ≤ 40 * (k : Int) := by rw [← hG]; exact hbq
              rw [hG] at c0
              have HG := Lib.hid hG
              have HSC2 := Lib.hid hsc2
              clear hG hsc2 hbq
              have wp1 : IntKind.i64.wrap (G + X) = G + X := IntWalk.i64_in _ (by omega)
              go_wp2_with fail
              go_region
              have hs7 : ∀ j, j ≠ Bc → (w5.setCell ⟨Bc, q, none⟩ (.int .i64 (G + X))).drew.heap[j]? = w5.heap[j]? := fun j hj => Below.heap_setCell _ _ _ _ hj
              have hK7 := (HK5.out.set (v := q) (G + X) q5).of_block (W' := (w5.setCell ⟨Bc, q, none⟩ (.int .i64 (G + X))).drew) rfl
              have hS7 := HS5.out.of_block (hs7 Bt (by omega))
              have hI7 := (hs7 Bi (by omega)).trans HI5.out
              have hB7 : Below w.heap.size w (w5.setCell ⟨Bc, q, none⟩ (.int .i64 (G + X))).drew := (HB5.out.setCell (by simp; omega) _).drew
              clear hs7
              generalize (w5.setCell ⟨Bc, q, none⟩ (.int .i64 (G + X))).drew = w6 at hS7 hK7 hI7 hB7 ⊢
              have hK8 : FiveAt w6 Bc (cirS l x (k + 1)) := hK7.congr (fun i _ => by
                rw [HSC2.out]; unfold updG
                by_cases e : (i : Int) = q
                · rw [if_pos e, if_pos e.symm, e, HG.out]
                · rw [if_neg e, if_neg (fun h => e h.symm)]; omega)
              have HS6 := Lib.hid hS7
              have HK6 := Lib.hid hK8
              have HI6 := Lib.hid hI7
              have HB6 := Lib.hid hB7
              clear hS7 hK7 hK8 hI7 hB7 HS5 HK5 HI5 HB5 f1 f2 f3 c0 z0 wp1 HG HSC2 he
              go_wp2_with fail
              go_roundw
              case rel => exact ⟨k + 1, by omega, by go_num, HRS1.out, HS6.out, HK6.out, HI6.out, HB6.out⟩
              case measure => simp [intOf]; omega
            · have he : decide (0 ≤ a.c) = false := by simpa using hc
              have hK8 : FiveAt w5 Bc (cirS l x (k + 1)) := HK5.out.congr (fun i _ => by rw [HSC.out, if_neg (by omega)]; omega)
              have HK6 := Lib.hid hK8
              clear hK8 HK5
              go_wp2_with fail
              go_roundw
              case rel => exact ⟨k + 1, by omega, by go_num, HRS1.out, HS5.out, HK6.out, HI5.out, HB5.out⟩
              case measure => simp [intOf]; omega
          · have hd : decide (0 ≤ a.t) = false := by simpa using ht
            have hS8 : FiveAt w4 Bt (triS l x (k + 1)) := HS4.out.congr (fun i _ => by rw [HST.out, if_neg (by omega)]; omega)
            have HS5 := Lib.hid hS8
            have HK5 := Lib.hid HK4.out
            have HI5 := Lib.hid HI4.out
            have HB5 := Lib.hid HB4.out
            have f1 := g1
            have f2 := g2
            have f3 := g3
            clear hS8 HS4 HK4 HI4 HB4 g1 g2
            obtain ⟨w5, hw5⟩ : ∃ w5, w4 = w5 := ⟨_, rfl⟩
            rw [hw5] at HS5 HK5 HI5 HB5 f1 f2 f3 g0 g3 ⊢
            by_cases hc : 0 ≤ a.c
            · obtain ⟨q, hq⟩ : ∃ q : Nat, a.c = q := ⟨a.c.toNat, by omega⟩
              have hbq := HBC.out q
              have hsc2 := fun v => HSC.out v
              rw [hq] at hsc2 f1 hc
              have he : decide ((0 : Int) ≤ (q : Int)) = true := by simp
              have q5 : q < 5 := by omega
              have c0 := HK5.out.cell q5
              have z0 := HK5.out.frozen q
              have i5 : (0 : Int) ≤ (q : Int) := by omega
              have i6 : (q : Int) < 5 := by omega
              obtain ⟨G, hG⟩ : ∃ G, cirS l x k q = G := ⟨_, rfl⟩
              have hbq2 : 0 ≤ G ∧ G ≤ 40 * (k : Int) := by rw [← hG]; exact hbq
              rw [hG] at c0
              have HG := Lib.hid hG
              have HSC2 := Lib.hid hsc2
              clear hG hsc2 hbq
              have wp1 : IntKind.i64.wrap (G + X) = G + X := IntWalk.i64_in _ (by omega)
              go_wp2_with fail
              go_region
              have hs7 : ∀ j, j ≠ Bc → (w5.setCell ⟨Bc, q, none⟩ (.int .i64 (G + X))).drew.heap[j]? = w5.heap[j]? := fun j hj => Below.heap_setCell _ _ _ _ hj
              have hK7 := (HK5.out.set (v := q) (G + X) q5).of_block (W' := (w5.setCell ⟨Bc, q, none⟩ (.int .i64 (G + X))).drew) rfl
              have hS7 := HS5.out.of_block (hs7 Bt (by omega))
              have hI7 := (hs7 Bi (by omega)).trans HI5.out
              have hB7 : Below w.heap.size w (w5.setCell ⟨Bc, q, none⟩ (.int .i64 (G + X))).drew := (HB5.out.setCell (by simp; omega) _).drew
              clear hs7
              generalize (w5.setCell ⟨Bc, q, none⟩ (.int .i64 (G + X))).drew = w6 at hS7 hK7 hI7 hB7 ⊢
              have hK8 : FiveAt w6 Bc (cirS l x (k + 1)) := hK7.congr (fun i _ => by
                rw [HSC2.out]; unfold updG
                by_cases e : (i : Int) = q
                · rw [if_pos e, if_pos e.symm, e, HG.out]
                · rw [if_neg e, if_neg (fun h => e h.symm)]; omega)
              have HS6 := Lib.hid hS7
              have HK6 := Lib.hid hK8
              have HI6 := Lib.hid hI7
              have HB6 := Lib.hid hB7
              clear hS7 hK7 hK8 hI7 hB7 HS5 HK5 HI5 HB5 f1 f2 f3 c0 z0 wp1 HG HSC2 he
              go_wp2_with fail
              go_roundw
              case rel => exact ⟨k + 1, by omega, by go_num, HRS1.out, HS6.out, HK6.out, HI6.out, HB6.out⟩
              case measure => simp [intOf]; omega
            · have he : decide (0 ≤ a.c) = false := by simpa using hc
              have hK8 : FiveAt w5 Bc (cirS l x (k + 1)) := HK5.out.congr (fun i _ => by rw [HSC.out, if_neg (by omega)]; omega)
              have HK6 := Lib.hid hK8
              clear hK8 HK5
              go_wp2_with fail
              go_roundw
              case rel => exact ⟨k + 1, by omega, by go_num, HRS1.out, HS5.out, HK6.out, HI5.out, HB5.out⟩
              case measure => simp [intOf]; omega
      · have hlt' : decide ((k : Int) < (n : Int)) = false := by simpa using hlt
        obtain rfl : k = n := by omega
        have c1 : wr.cell? ⟨Bi, 1, none⟩ = some (.int .i64 T) := by simp [World.cell?, hI]
        have c2 : wr.cell? ⟨Bi, 2, none⟩ = some (.int .i64 C) := by simp [World.cell?, hI]
        have hsf := Lib.hid (sums_five HO.out x)
        have HIS2 := Lib.hid (show isTruthB l T C err xs = sumsB l T C x by rw [HIS.out, hro]; rfl)
        have HS := Lib.hid hS
        have HK := Lib.hid hK
        have HBe := Lib.hid hBe
        have ht1 := HO.out.t1
        have hc1 := HO.out.c1
        clear hro hS hK hI hBe HIS
        go_wp2_with fail
        go_loop [12] (fun i => ∃ j : Nat, j ≤ 5 ∧ i = .int .i64 j ∧ ∀ m : Nat, m < j → five l T C x m = false) (fun i => 5 - (intOf i).toNat)
        case atStart => exact ⟨0, by omega, rfl, fun m h => by omega⟩
        case round =>
          obtain ⟨j, hj, rfl, hall⟩ := hrel
          have HALL := Lib.hid hall
          clear hall
          by_cases hj5 : j < 5
          · have hlt5 : decide ((j : Int) < 5) = true := by simp; omega
            have s0 := HS.out.cell hj5
            have s1 := HK.out.cell hj5
            have i1 : (0 : Int) ≤ (j : Int) := by omega
            have i2 : (j : Int) < 5 := by omega
            have hfv : five l T C x j = ((decide ((j : Int) < T) && triS l x k j != 36) || (decide ((j : Int) < C) && cirS l x k j != 72)) := by unfold five; rw [HL.out]
            obtain ⟨G, hG⟩ : ∃ G, triS l x k j = G := ⟨_, rfl⟩
            obtain ⟨K, hK⟩ : ∃ K, cirS l x k j = K := ⟨_, rfl⟩
            rw [hG] at s0
            rw [hK] at s1
            rw [hG, hK] at hfv
            have HFV := Lib.hid hfv
            clear hfv hG hK
            cases e1 : decide ((j : Int) < T) <;> cases e2 : decide ((j : Int) < C) <;> cases e3 : (G != 36) <;> cases e4 : (K != 72)
            all_goals
              rw [e1, e2, e3, e4] at HFV
              first
              | (have hfv : five l T C x j = false := HFV.out
                 have HF2 := Lib.hid hfv
                 clear hfv HFV
                 go_wp2_with fail
                 go_round
                 case rel => exact ⟨j + 1, by omega, by go_num, fun m hm => by
                   by_cases e : m = j
                   · rw [e]; exact HF2.out
                   · exact HALL.out m (by omega)⟩
                 case measure => simp [intOf]; omega)
              | (have hfv : five l T C x j = true := HFV.out
                 have hff : isTruthB l T C err xs = false := by
                   rw [HIS2.out]
                   cases h : sumsB l T C x with
                   | false => rfl
                   | true => have := hsf.out.1 h j hj5; rw [hfv] at this; cases this
                 have HFF := Lib.hid hff
                 clear hfv hff HFV
                 go_wp2_with fail
                 go_ret
                 exact ⟨by rw [HFF.out]; rfl, HBe.out⟩)
          · have hlt5 : decide ((j : Int) < 5) = false := by simp; omega
            have hff : isTruthB l T C err xs = true := by rw [HIS2.out]; exact hsf.out.2 fun m hm => HALL.out m (by omega)
            have HFF := Lib.hid hff
            clear hff
            go_wp2_with fail
            go_ret
            exact ⟨by rw [HFF.out]; rfl, HBe.out⟩
  · have hneq : ((xs.length : Int) != (n : Int)) = true := by rw [bne_iff_ne]; omega
    have hf : isTruthB l T C err xs = false := by unfold isTruthB; rw [hl, decide_eq_false hlen]; rfl
    have HF := Lib.hid hf
    clear hf hrc htx hA hl hok hlen
    go_enter Try.func29, Try.ntmps29
    go_wp2_with fail
    go_ret
    exact ⟨by rw [HF.out]; rfl, (Below.refl _ _).alloc (Nat.le_refl _) _⟩
end
end Go.Proofs.Ytkloaeaepjoijaa
namespace Go.Proofs.Ytkloaeaepjoijaa
section
open Go.ChangeShapes Go.WideShapes Go.ChangeAt Go.RowKit Go.Joins Go.Deep
theorem Try.ownK : ownKnob Try.prog.godebug = none := by kernel_rfl
theorem Try.laidOutK : laidOutB Try.prog = true := by kernel_rfl
section
variable {H : Type} {enc : TypeId × Value → H} {W : World} {spare : Nat → Bool} {held : Bool}
end
end
end Go.Proofs.Ytkloaeaepjoijaa
namespace Go.Proofs.Ytkloaeaepjoijaa
section
open Go.RowKit Go.WalkArith
/-- What Show hands back is a truth by the reference. -/
theorem shown_truth {l : List Ang} {T C err : Int} {x : Int → Int} (h0 : askedL l T C err = 0) (ht : TruthE l T C err [] x) : isTruthB l T C err ((List.range l.length).map fun i : Nat => x i) = true := by
  have h := truthB_iff.2 ⟨h0, by simp, ht.congr (y := fnOf ((List.range l.length).map fun i : Nat => x i)) (fun i hi => by rw [fnOf_at (by simpa using hi)]; simp)⟩
  rw [truthB_is, h0] at h
  simpa using h
section
variable {A : Option Addr} {n cap : Nat} {T C err : Int} {l : List Ang} {w : World}
theorem show_no (hn : n ≤ 1000000) (hl : l.length = n) (hA : AngsAt w A l) (hs : sureL l T C err ≠ 0) :
    Calls Try.prog 36 #[.agg #[.slice A n cap, .int .i64 T, .int .i64 C], .int .i64 err] w fun e w' => e = .returned (.tuple #[.slice none 0 0, .int .i64 (sureL l T C err)]) ∧ Below w.heap.size w w' := by
  refine (show_any A n cap T C err l w hn hl hA).mono ?_
  rintro e w' ⟨hb, ⟨_, rfl⟩ | ⟨h0, _⟩⟩
  · exact ⟨rfl, hb⟩
  · exact absurd h0 hs
theorem show_yes (hn : n ≤ 1000000) (hl : l.length = n) (hA : AngsAt w A l) (hs : sureL l T C err = 0) :
    Calls Try.prog 36 #[.agg #[.slice A n cap, .int .i64 T, .int .i64 C], .int .i64 err] w fun e w' => ∃ Av cp xs, e = .returned (.tuple #[.slice Av (List.length xs) cp, .int .i64 0]) ∧ List.length xs = n ∧ IntsAt w' (.slice Av (List.length xs) cp) xs ∧ isTruthB l T C err xs = true ∧ Below w.heap.size w w' := by
  refine (show_any A n cap T C err l w hn hl hA).mono ?_
  rintro e w' ⟨hb, ⟨h0, _⟩ | ⟨_, v, x, rfl, ho, hx⟩⟩
  · exact absurd hs h0
  · have ho2 : w'.ownsRow w.heap.size 3 1 v ((List.range l.length).map fun i : Nat => x i).length (((List.range l.length).map fun i : Nat => x i).map (Value.int .i64)) := by
      rw [List.map_map]; simp only [List.length_map, List.length_range]; exact ho
    have hI := IntsAt.of_own ho2
    obtain ⟨Av, cp, rfl⟩ := own_slice ho2
    exact ⟨Av, cp, _, rfl, by simpa using hl, hI, shown_truth (sureL_ok hs).1 hx, hb⟩
end
end
end Go.Proofs.Ytkloaeaepjoijaa
namespace Go.Proofs.Ytkloaeaepjoijaa
section
open Go.RowKit Go.WalkArith
theorem u8_range {a : Int} (h : (Go.Lit.int .u8 a).wf = true) : 0 ≤ a ∧ a ≤ 255 := by
  simp only [Go.Lit.wf, Bool.and_eq_true, decide_eq_true_eq] at h
  have e0 : Go.IntKind.u8.min = 0 := by decide
  have e1 : Go.IntKind.u8.max = 255 := by decide
  omega
theorem u16_range {a : Int} (h : (Go.Lit.int .u16 a).wf = true) : 0 ≤ a ∧ a ≤ 65535 := by
  simp only [Go.Lit.wf, Bool.and_eq_true, decide_eq_true_eq] at h
  have e0 : Go.IntKind.u16.min = 0 := by decide
  have e1 : Go.IntKind.u16.max = 65535 := by decide
  omega
section
variable {A : Option Addr} {n cap : Nat} {T C err : Int} {l : List Ang} {w : World}
end
theorem sureL_ans {l : List Ang} {T C e : Int} (h : askedL l T C e = 0) : sureL l T C e = if canE l T C e [] then 0 else 9 := by unfold sureL; rw [if_neg (by rw [h]; simp)]
end
end Go.Proofs.Ytkloaeaepjoijaa
namespace Go.Proofs.Ytkloaeaepjoijaa
section
open Go.RowKit Go.WalkArith
theorem Try.info71 : (Try.prog.info? 71).map (fun i => (i.zero, i.size, i.bytes)) = some (some (.agg #[.int .i64 0, .int .i64 0, .int .i64 0, .int .i64 0]), 4, 32) := by kernel_rfl
/-- Block g holds angles. -/
def AngRow (W : World) (g : Nat) (l : List Ang) : Prop :=
  ∃ cur, W.heap[g]? = some (.cells cur 71 (0, 0)) ∧ ∀ i (h : i < l.length), cur[i * 4]? = some (.int .i64 l[i].t) ∧ cur[i * 4 + 1]? = some (.int .i64 l[i].c) ∧ cur[i * 4 + 2]? = some (.int .i64 l[i].r) ∧ cur[i * 4 + 3]? = some (.int .i64 l[i].g)
theorem AngRow.of_own {W : World} {base : Nat} {v : Value} {l : List Ang} (hn : 0 < l.length) (h : W.ownsRow base 71 4 v l.length (flatA l)) : ∃ g cap, v = .slice (some ⟨g, 0, none⟩) l.length cap ∧ base ≤ g ∧ AngRow W g l := by
  obtain ⟨_, ⟨rfl, h0⟩ | ⟨g, cap, cur, rfl, hb, hh, _, _, _, ht⟩⟩ := h
  · omega
  · refine ⟨g, cap, rfl, hb, cur, hh, fun i hi => ?_⟩
    have := flatA_get l i hi
    rw [← ht, List.getElem?_take_of_lt (by omega), List.getElem?_take_of_lt (by omega), List.getElem?_take_of_lt (by omega), List.getElem?_take_of_lt (by omega)] at this
    simpa only [Array.getElem?_toList] using this
theorem AngRow.of_block {W W' : World} {g : Nat} {l : List Ang} (h : AngRow W g l) (hb : W'.heap[g]? = W.heap[g]?) : AngRow W' g l := by
  obtain ⟨cur, h1, h2⟩ := h
  exact ⟨cur, hb.trans h1, h2⟩
theorem AngRow.lt {W : World} {g : Nat} {l : List Ang} (h : AngRow W g l) : g < W.heap.size := by
  obtain ⟨cur, h1, h2⟩ := h
  exact (Array.getElem?_eq_some_iff.1 h1).1
theorem AngRow.frozen {W : World} {g : Nat} {l : List Ang} (h : AngRow W g l) (i : Nat) : W.frozen? ⟨g, i, none⟩ = false := by
  obtain ⟨cur, h1, h2⟩ := h
  simp [World.frozen?, h1]
theorem AngRow.cells {W : World} {g : Nat} {l : List Ang} (h : AngRow W g l) {i : Nat} (hi : i < l.length) : AngAt W g (i * 4) l[i] := by
  obtain ⟨cur, hb, hr⟩ := h
  obtain ⟨a, b, c, d⟩ := hr i hi
  exact ⟨by simp [World.cell?, hb, a], by simp [World.cell?, hb, b], by simp [World.cell?, hb, c], by simp [World.cell?, hb, d]⟩
theorem AngRow.angs {W : World} {g : Nat} {l : List Ang} (h : AngRow W g l) : AngsAt W (some ⟨g, 0, none⟩) l :=
  .inr ⟨g, 0, rfl, fun i hi => by rw [Nat.zero_add]; exact h.cells hi⟩
/-- One number of an angle is written. -/
def putF (a : Ang) (f : Nat) (x : Int) : Ang :=
  ⟨if f = 0 then x else a.t, if f = 1 then x else a.c, if f = 2 then x else a.r, if f = 3 then x else a.g⟩
theorem AngRow.put {W : World} {g : Nat} {l : List Ang} (h : AngRow W g l) {i f : Nat} (hi : i < l.length) (hf : f < 4) (x : Int) : AngRow (W.setCell ⟨g, i * 4 + f, none⟩ (.int .i64 x)) g (l.set i (putF l[i] f x)) := by
  obtain ⟨cur, hb, hr⟩ := h
  refine ⟨cur.setIfInBounds (i * 4 + f) (.int .i64 x), by simp [World.setCell, Array.getElem?_modify, hb], fun j hj => ?_⟩
  have hj' : j < l.length := by simpa using hj
  have hs := (Array.getElem?_eq_some_iff.1 (hr i hi).2.2.2).1
  obtain ⟨a, b, c, d⟩ := hr j hj'
  by_cases e : i = j
  · subst e
    simp only [List.getElem_set_self, putF]
    simp only [Array.getElem?_setIfInBounds]
    obtain rfl | rfl | rfl | rfl : f = 0 ∨ f = 1 ∨ f = 2 ∨ f = 3 := by omega
    · refine ⟨by rw [if_pos (by omega), if_pos (by omega), if_pos rfl], by rw [if_neg (by omega)]; exact b, by rw [if_neg (by omega)]; exact c, by rw [if_neg (by omega)]; exact d⟩
    · refine ⟨by rw [if_neg (by omega)]; exact a, by rw [if_pos rfl, if_pos (by omega), if_pos rfl], by rw [if_neg (by omega)]; exact c, by rw [if_neg (by omega)]; exact d⟩
    · refine ⟨by rw [if_neg (by omega)]; exact a, by rw [if_neg (by omega)]; exact b, by rw [if_pos rfl, if_pos (by omega), if_pos rfl], by rw [if_neg (by omega)]; exact d⟩
    · refine ⟨by rw [if_neg (by omega)]; exact a, by rw [if_neg (by omega)]; exact b, by rw [if_neg (by omega)]; exact c, by rw [if_pos rfl, if_pos (by omega), if_pos rfl]⟩
  · simp only [List.getElem_set_ne e, Array.getElem?_setIfInBounds]
    refine ⟨by rw [if_neg (by omega)]; exact a, by rw [if_neg (by omega)]; exact b, by rw [if_neg (by omega)]; exact c, by rw [if_neg (by omega)]; exact d⟩
theorem angs_flat {W : World} {b o : Nat} {l : List Ang} (h : AngsAt W (some ⟨b, o, none⟩) l) : ∀ j u, (flatA l)[j]? = some u → W.cell? ((⟨b, o, none⟩ : Addr).add j) = some u := by
  intro j u hu
  have hj := (List.getElem?_eq_some_iff.1 hu).1
  rw [flatA_length] at hj
  obtain ⟨b', o', hA, hc⟩ := Or.resolve_left h (fun e => by rw [e] at hj; simp at hj)
  obtain ⟨rfl, rfl⟩ : b = b' ∧ o = o' := by simpa using hA
  have hg := flatA_get l (j / 4) (by omega)
  obtain ⟨a1, a2, a3, a4⟩ := hc (j / 4) (by omega)
  rw [add_at]
  obtain e | e | e | e : j = j / 4 * 4 ∨ j = j / 4 * 4 + 1 ∨ j = j / 4 * 4 + 2 ∨ j = j / 4 * 4 + 3 := by omega
  · rw [e] at hu ⊢; rw [hg.1] at hu; rw [a1]; exact hu
  · rw [e] at hu ⊢; rw [hg.2.1] at hu; rw [← Nat.add_assoc, a2]; exact hu
  · rw [e] at hu ⊢; rw [hg.2.2.1] at hu; rw [← Nat.add_assoc, a3]; exact hu
  · rw [e] at hu ⊢; rw [hg.2.2.2] at hu; rw [← Nat.add_assoc, a4]; exact hu
theorem flatA_one (l : List Ang) : ∀ u ∈ flatA l, u.oneCell' = true := by
  intro u hu
  simp only [flatA, List.mem_flatMap] at hu
  obtain ⟨i, _, hu⟩ := hu
  simp at hu
  rcases hu with rfl | rfl | rfl | rfl <;> rfl
/-- A net is copied into a block of its own, its list of angles into another: what stands then. -/
structure Copied (w0 w : World) (Bi Bx b o n cap : Nat) (T C : Int) (l : List Ang) (W : World) (g cp : Nat) : Prop where
  below : Below w0.heap.size w0 W
  old : W.heap[Bi]? = w.heap[Bi]?
  new : W.heap[Bx]? = some (.cells #[.slice (some ⟨g, 0, none⟩) n cp, .int .i64 T, .int .i64 C] 24 (0, 0))
  row : AngRow W g l
  far : Bx < g
theorem copied {w0 w w1 : World} {Bi b o n cap : Nat} {T C : Int} {l : List Ang} {v' : Value} (hl : l.length = n) (hpos : 0 < n) (hB : Below w0.heap.size w0 w) (hbi : Bi < w.heap.size)
    (hown : w1.ownsRow (w.heap.size + 1) 71 4 v' n (flatA l)) (hgrow : ((w.alloc (.cells #[.slice (some ⟨b, o, none⟩) n cap, .int .i64 T, .int .i64 C] 24)).alloc (.cells #[] 71)).grownBy w1 (Value.ownBlock (.slice (some ⟨w.heap.size + 1, 0, none⟩) 0 0))) :
    ∃ g cp, v' = .slice (some ⟨g, 0, none⟩) n cp ∧ w1.heap[w.heap.size]? = some (.cells #[.slice (some ⟨b, o, none⟩) n cap, .int .i64 T, .int .i64 C] 24 (0, 0)) ∧ Copied w0 w Bi w.heap.size b o n cap T C l (w1.setCell ⟨w.heap.size, 0, none⟩ (.slice (some ⟨g, 0, none⟩) n cp)) g cp := by
  subst hl
  obtain ⟨g, cp, rfl, hg, hrow⟩ := AngRow.of_own hpos hown
  have hblk : ∀ j, j < w.heap.size + 1 → w1.heap[j]? = ((w.alloc (.cells #[.slice (some ⟨b, o, none⟩) l.length cap, .int .i64 T, .int .i64 C] 24)).alloc (.cells #[] 71)).heap[j]? := fun j hj => hgrow.block j (by simp; omega) (by simp [Value.ownBlock]; omega)
  have hx : w1.heap[w.heap.size]? = some (.cells #[.slice (some ⟨b, o, none⟩) l.length cap, .int .i64 T, .int .i64 C] 24 (0, 0)) := by
    rw [hblk _ (by omega), Below.heap_alloc _ _ _ (by simp)]; exact heap_new_at _ _ _ rfl
  have hbw : ∀ j, j < w.heap.size → w1.heap[j]? = w.heap[j]? := fun j hj => by
    rw [hblk j (by omega), Below.heap_alloc _ _ _ (by simp; omega), Below.heap_alloc _ _ _ hj]
  have hsz := hgrow.size
  simp at hsz
  have hB1 : Below w0.heap.size w0 w1 := ⟨hgrow.os.trans hB.os, hgrow.tape.trans hB.tape, hgrow.output.trans hB.output, by have := hB.size; omega, fun j hj => (hbw j (Nat.lt_of_lt_of_le hj hB.size)).trans (hB.block j hj)⟩
  refine ⟨g, cp, rfl, hx, hB1.setCell (by simp; exact hB.size) _, (Below.heap_setCell _ _ _ _ (by show Bi ≠ w.heap.size; omega)).trans (hbw Bi hbi), set_one hx _, hrow.of_block (Below.heap_setCell _ _ _ _ (by show g ≠ w.heap.size; omega)), by omega⟩
theorem copy_made (w : World) (x : Value) (y z : Int) : ((w.alloc (.cells #[x, .int .i64 y, .int .i64 z] 24)).alloc (.cells #[] 71)).ownsRow (w.heap.size + 1) 71 4 (.slice (some ⟨w.heap.size + 1, 0, none⟩) 0 0) 0 [] := by
  have h := World.ownsRow_made (base := w.heap.size + 1) (e := 71) (size := 4) (w.alloc (.cells #[x, .int .i64 y, .int .i64 z] 24)) #[] 0 (by simp) (by decide) rfl
  rw [show (w.alloc (.cells #[x, .int .i64 y, .int .i64 z] 24)).heap.size = w.heap.size + 1 by simp] at h
  exact h
theorem copy_flat {w : World} {b o : Nat} {l : List Ang} (h : AngsAt w (some ⟨b, o, none⟩) l) (x y : Obj) : ∀ j u, (flatA l)[j]? = some u → ((w.alloc x).alloc y).cell? ((⟨b, o, none⟩ : Addr).add j) = some u := fun j u hu => by
  have h1 := angs_flat h j u hu
  have hB : Below w.heap.size w ((w.alloc x).alloc y) := ((Below.refl _ _).alloc (Nat.le_refl _) _).alloc (by simp) _
  rw [hB.cell (World.block_lt_of_cell? w _ h1)]; exact h1
theorem copy_block {w : World} {j : Nat} (hj : j < w.heap.size) (x y : Obj) : ((w.alloc x).alloc y).heap[j]? = w.heap[j]? := by
  rw [Below.heap_alloc _ _ _ (by simp; omega), Below.heap_alloc _ _ _ hj]
/-- The same triangles and circles. -/
structure SameNet (l l' : List Ang) : Prop where
  len : l'.length = l.length
  t : ∀ i (h : i < l.length) (h' : i < l'.length), l'[i].t = l[i].t
  c : ∀ i (h : i < l.length) (h' : i < l'.length), l'[i].c = l[i].c
theorem SameNet.canB {l l' : List Ang} (h : SameNet l l') (T C : Int) (lo hi : Int → Int) : canB l' T C lo hi = canB l T C lo hi := by
  have hf : ∀ i : Nat, i < l.length → frL l' i = frL l i := fun i hi => by rw [frL_at hi, frL_at (by rw [h.len]; exact hi), h.t i hi]
  have ht : ∀ i : Nat, i < l.length → toL l' i = toL l i := fun i hi => by rw [toL_at hi, toL_at (by rw [h.len]; exact hi), h.c i hi]
  unfold Ytkloaeaepjoijaa.canB denyB
  have hl : ∀ m, lowM l.length (frL l') (toL l') lo hi m = lowM l.length (frL l) (toL l) lo hi m := fun m => sumR_congr fun i hi'' => by rw [hf i hi'', ht i hi'']
  have hh : ∀ m, highM l.length (frL l') (toL l') lo hi m = highM l.length (frL l) (toL l) lo hi m := fun m => sumR_congr fun i hi'' => by rw [hf i hi'', ht i hi'']
  simp only [h.len, hl, hh]
end
end Go.Proofs.Ytkloaeaepjoijaa
namespace Go.Proofs.Ytkloaeaepjoijaa
section
open Go.RowKit Go.WalkArith
/-- Words behind a slice. -/
def WordsAt (W : World) (v : Value) (ws : List Int) : Prop :=
  ∃ A cap, v = .slice A ws.length cap ∧ (∀ x ∈ ws, 0 ≤ x ∧ x ≤ 65535) ∧ (ws = [] ∨ ∃ b o, A = some ⟨b, o, none⟩ ∧ ∀ i (h : i < ws.length), W.cell? ⟨b, o + i, none⟩ = some (.int .u16 ws[i]))
theorem WordsAt.keep {W W' : World} {v : Value} {ws : List Int} {B : Nat} (h : WordsAt W v ws) (hb : Below B W W') (hB : W.heap.size ≤ B) : WordsAt W' v ws := by
  obtain ⟨A, cap, h1, h0, h2⟩ := h
  refine ⟨A, cap, h1, h0, ?_⟩
  rcases h2 with h2 | ⟨b, o, h3, h4⟩
  · exact .inl h2
  · exact .inr ⟨b, o, h3, fun i hi => (hb.cell (p := ⟨b, o + i, none⟩) (Nat.lt_of_lt_of_le (World.block_lt_of_cell? W _ (h4 i hi)) hB)).trans (h4 i hi)⟩
def WordPost (w : World) (e : Ending) (w' : World) : Prop := ∃ v : Int, e = .returned (.int .i64 v) ∧ 0 ≤ v ∧ v ≤ 65535 ∧ w = w'
set_option maxHeartbeats 1000000 in
theorem word_any (v : Value) (ws : List Int) (k : Nat) (w : World) (hw : WordsAt w v ws) (hn : ws.length ≤ 9223372036854775807) (hk : k ≤ 1000) :
    Calls Try.prog 83 #[v, .int .i64 k] w (WordPost w) := by
  obtain ⟨A, cap, rfl, h0, hc⟩ := hw
  by_cases hz : ws.length = 0
  · have hb : ((ws.length : Int) == 0) = true := by simp [hz]
    clear hz h0 hc
    go_enter Try.func83, Try.ntmps83
    go_wp2_with fail
    go_ret
    exact ⟨0, rfl, by omega, by omega, rfl⟩
  · have hb : ((ws.length : Int) == 0) = false := by simpa using hz
    obtain ⟨b, o, rfl, hd⟩ := hc.resolve_left (fun h => by rw [h] at hz; simp at hz)
    have hlt : k % ws.length < ws.length := Nat.mod_lt _ (by omega)
    have ck := hd _ hlt
    have hr := h0 ws[k % ws.length] (List.getElem_mem hlt)
    obtain ⟨x, hx⟩ : ∃ x, ws[k % ws.length] = x := ⟨_, rfl⟩
    rw [hx] at ck hr
    obtain ⟨i, hi⟩ : ∃ i, k % ws.length = i := ⟨_, rfl⟩
    rw [hi] at ck hlt
    have e1 : (k : Int) % (ws.length : Int) = (i : Int) := by rw [← hi]; rfl
    have e2 : (k : Int).tmod (ws.length : Int) = (i : Int) := by rw [Int.tmod_eq_emod_of_nonneg (by omega)]; exact e1
    have i1 : (0 : Int) ≤ (i : Int) := by omega
    have i2 : (i : Int) < (ws.length : Int) := by omega
    have p1 : 1 ≤ (ws.length : Int) := by omega
    have r0 := hr.1
    have r1 := hr.2
    clear hx hi hc hd h0 hz hr
    go_enter Try.func83, Try.ntmps83
    go_wp2_with fail
    go_ret
    exact ⟨x, rfl, r0, r1, rfl⟩
/-- What one more angle adds at a node. -/
def pushS (t c x v : Int) : Int := (if nodeOf t 0 = v then x else 0) + (if nodeOf c 5 = v then x else 0)
theorem sumsP_push {l : List Ang} {xs : List Int} {a : Ang} {x : Int} (h : l.length = xs.length) (v : Int) : sumsP (l ++ [a]) (fnOf (xs ++ [x])) (l.length + 1) v = sumsP l (fnOf xs) l.length v + pushS a.t a.c x v := by
  unfold sumsP
  simp only [sumR]
  have h1 : frL (l ++ [a]) (l.length : Int) = nodeOf a.t 0 := by simp [frL, tOf]
  have h2 : toL (l ++ [a]) (l.length : Int) = nodeOf a.c 5 := by simp [toL, cOf]
  have h3 : fnOf (xs ++ [x]) (l.length : Int) = x := by simp [fnOf, h]
  rw [h1, h2, h3]
  congr 1
  refine sumR_congr fun i hi => ?_
  have e1 : frL (l ++ [a]) (i : Int) = frL l i := by simp [frL, tOf, List.getElem?_append_left hi]
  have e2 : toL (l ++ [a]) (i : Int) = toL l i := by simp [toL, cOf, List.getElem?_append_left hi]
  have e3 : fnOf (xs ++ [x]) (i : Int) = fnOf xs i := by simp [fnOf, List.getElem?_append_left (show i < xs.length by omega)]
  rw [e1, e2, e3]
/-- Some angles of a net that is being made, with their truth: what comes together at the nodes. -/
structure CInv (T C : Int) (l : List Ang) (xs : List Int) (S : Int → Int) : Prop where
  len : l.length = xs.length
  ang : ∀ a ∈ l, -1 ≤ a.t ∧ a.t < T ∧ -1 ≤ a.c ∧ a.c < C
  x01 : ∀ x ∈ xs, 0 ≤ x ∧ x ≤ 40
  sum : ∀ v : Int, 0 ≤ v → v < 10 → sumsP l (fnOf xs) l.length v = S v
theorem CInv.nil (T C : Int) : CInv T C [] [] (fun _ => 0) := ⟨rfl, (fun a h => by cases h), (fun x h => by cases h), fun v _ _ => rfl⟩
theorem CInv.push {T C : Int} {l : List Ang} {xs : List Int} {S S' : Int → Int} (h : CInv T C l xs S) {t c r g x : Int} (ht : -1 ≤ t ∧ t < T) (hc : -1 ≤ c ∧ c < C) (hx : 0 ≤ x ∧ x ≤ 40) (hS : ∀ v : Int, 0 ≤ v → v < 10 → S' v = S v + pushS t c x v) : CInv T C (l ++ [⟨t, c, r, g⟩]) (xs ++ [x]) S' := by
  refine ⟨by simp [h.len], fun a ha => ?_, fun y hy => ?_, fun v h0 h1 => ?_⟩
  · rcases List.mem_append.1 ha with ha | ha
    · exact h.ang a ha
    · rw [List.mem_singleton.1 ha]; exact ⟨ht.1, ht.2, hc.1, hc.2⟩
  · rcases List.mem_append.1 hy with hy | hy
    · exact h.x01 y hy
    · rw [List.mem_singleton.1 hy]; exact hx
  · rw [List.length_append, List.length_singleton, sumsP_push h.len, h.sum v h0 h1, hS v h0 h1]
theorem CInv.congr {T C : Int} {l : List Ang} {xs : List Int} {S S' : Int → Int} (h : CInv T C l xs S) (hS : ∀ v : Int, 0 ≤ v → v < 10 → S' v = S v) : CInv T C l xs S' :=
  ⟨h.len, h.ang, h.x01, fun v h0 h1 => (h.sum v h0 h1).trans (hS v h0 h1).symm⟩
/-- Before a triangle; within it, with what is left; before a circle. -/
def S1 (t : Int) (cs : Int → Int) (v : Int) : Int := if v < 5 then (if v < t then 36 else 0) else cs (v - 5)
def S2 (t left : Int) (cs : Int → Int) (v : Int) : Int := if v < 5 then (if v < t then 36 else if v = t then 36 - left else 0) else cs (v - 5)
def S3 (T c : Int) (cs : Int → Int) (v : Int) : Int := if v < 5 then (if v < T then 36 else 0) else if v - 5 < c then 72 else cs (v - 5)
theorem S2_start (t : Int) (cs : Int → Int) (v : Int) : S2 t 36 cs v = S1 t cs v := by
  unfold S1 S2
  split
  · split
    · rfl
    · split <;> omega
  · rfl
theorem S2_free {t left x : Int} {cs : Int → Int} (ht : 0 ≤ t ∧ t < 5) (v : Int) (h0 : 0 ≤ v) (h1 : v < 10) : S2 t (left - x) cs v = S2 t left cs v + pushS t (-1) x v := by
  unfold S2 pushS nodeOf
  rw [if_neg (show ¬ t = -1 by omega), if_pos (show (-1 : Int) = -1 from rfl)]
  rw [if_neg (show ¬ (10 : Int) = v by omega)]
  split
  · split
    · rw [if_neg (by omega)]; omega
    · split
      · rw [if_pos (by omega)]; omega
      · rw [if_neg (by omega)]; omega
  · rw [if_neg (by omega)]; omega
theorem S2_circ {t left x c : Int} {cs : Int → Int} (ht : 0 ≤ t ∧ t < 5) (hc : 0 ≤ c ∧ c < 5) (v : Int) (h0 : 0 ≤ v) (h1 : v < 10) : S2 t (left - x) (updG cs c (cs c + x)) v = S2 t left cs v + pushS t c x v := by
  have hp : pushS t c x v = (if t = v then x else 0) + (if 5 + c = v then x else 0) := by
    unfold pushS nodeOf
    rw [if_neg (show ¬ t = -1 by omega), if_neg (show ¬ c = -1 by omega), Int.zero_add]
  rw [hp]
  unfold S2
  by_cases hv : v < 5
  · rw [if_pos hv, if_pos hv, if_neg (show ¬ 5 + c = v by omega)]
    by_cases e1 : v < t
    · rw [if_pos e1, if_pos e1, if_neg (by omega)]; omega
    · rw [if_neg e1, if_neg e1]
      by_cases e2 : v = t
      · rw [if_pos e2, if_pos e2, if_pos e2.symm]; omega
      · rw [if_neg e2, if_neg e2, if_neg (fun e => e2 e.symm)]; omega
  · rw [if_neg hv, if_neg hv, if_neg (show ¬ t = v by omega)]
    unfold updG
    by_cases e : v - 5 = c
    · rw [if_pos e, if_pos (by omega), e]; omega
    · rw [if_neg e, if_neg (by omega)]; omega
theorem S2_end {t left : Int} {cs : Int → Int} (ht : 0 ≤ t ∧ t < 5) (v : Int) (h0 : 0 ≤ v) (h1 : v < 10) : S1 (t + 1) cs v = S2 t left cs v + pushS t (-1) left v := by
  unfold S1 S2 pushS nodeOf
  rw [if_neg (show ¬ t = -1 by omega), if_pos (show (-1 : Int) = -1 from rfl), if_neg (show ¬ (10 : Int) = v by omega)]
  split
  · split
    · by_cases e : v = t
      · rw [if_neg (by omega), if_pos e, if_pos (by omega)]; omega
      · rw [if_pos (by omega), if_neg (by omega)]; omega
    · rw [if_neg (by omega), if_neg (by omega), if_neg (by omega)]; omega
  · rw [if_neg (by omega)]; omega
theorem S3_start (T : Int) (cs : Int → Int) (v : Int) (h0 : 0 ≤ v) : S3 T 0 cs v = S1 T cs v := by
  unfold S3 S1
  split
  · rfl
  · rw [if_neg (by omega)]
/-- Within a circle: so much is missing yet. -/
def S4 (T c miss : Int) (cs : Int → Int) (v : Int) : Int := if v = 5 + c then 72 - miss else S3 T c cs v
theorem S4_start {T c : Int} {cs : Int → Int} (hc : 0 ≤ c) (v : Int) : S4 T c (72 - cs c) cs v = S3 T c cs v := by
  unfold S4
  split
  · rename_i e
    unfold S3
    rw [if_neg (by omega), if_neg (by omega), show v - 5 = c by omega]; omega
  · rfl
theorem S4_step {T c miss x : Int} {cs : Int → Int} (hc : 0 ≤ c ∧ c < 5) (v : Int) (h0 : 0 ≤ v) (h1 : v < 10) : S4 T c (miss - x) cs v = S4 T c miss cs v + pushS (-1) c x v := by
  unfold S4 pushS nodeOf
  rw [if_pos (show (-1 : Int) = -1 from rfl), if_neg (show ¬ c = -1 by omega), if_neg (show ¬ (10 : Int) = v by omega)]
  split
  · rw [if_pos (by omega)]; omega
  · rw [if_neg (by omega)]; omega
theorem S4_end {T c : Int} {cs : Int → Int} (hc : 0 ≤ c) (v : Int) : S3 T (c + 1) cs v = S4 T c 0 cs v := by
  unfold S4
  split
  · rename_i e
    unfold S3
    rw [if_neg (by omega), if_pos (by omega)]; omega
  · rename_i e
    unfold S3
    split
    · rfl
    · by_cases e2 : v - 5 < c
      · rw [if_pos (by omega), if_pos e2]
      · rw [if_neg (by omega), if_neg e2]
theorem S_alone (S : Int → Int) {x : Int} (v : Int) (h1 : v < 10) : S v = S v + pushS (-1) (-1) x v := by
  unfold pushS nodeOf
  rw [if_pos (show (-1 : Int) = -1 from rfl), if_pos (show (-1 : Int) = -1 from rfl), if_neg (show ¬ (10 : Int) = v by omega)]
  omega
/-- How an angle was read around a truth. -/
def ReadOk (err : Int) (a : Ang) (x : Int) : Prop := 1 ≤ a.g ∧ a.g ≤ 3 ∧ 0 ≤ a.r ∧ a.r ≤ 40 ∧ max 0 (a.r - err * a.g) ≤ x ∧ x ≤ min 40 (a.r + err * a.g)
theorem read_ok {err g x m : Int} (he : 0 ≤ err) (hg : 1 ≤ g ∧ g ≤ 3) (hx : 0 ≤ x ∧ x ≤ 40) (hm : 0 ≤ m ∧ m ≤ 2 * (err * g)) {t c : Int} : ReadOk err ⟨t, c, max 0 (min 40 (x + m - err * g)), g⟩ x := by
  have h : 0 ≤ err * g := Int.mul_nonneg he (by omega)
  unfold ReadOk
  dsimp only
  generalize err * g = wd at h hm ⊢
  omega
theorem set_read {l4 : List Ang} {k : Nat} (hk : k < l4.length) (G R : Int) (hk' : k < (l4.set k (putF l4[k] 3 G)).length) (j : Nat) (h : j < ((l4.set k (putF l4[k] 3 G)).set k (putF ((l4.set k (putF l4[k] 3 G))[k]) 2 R)).length) :
    ∃ h4 : j < l4.length, ((l4.set k (putF l4[k] 3 G)).set k (putF ((l4.set k (putF l4[k] 3 G))[k]) 2 R))[j] = if j = k then ⟨l4[k].t, l4[k].c, R, G⟩ else l4[j] := by
  have h4 : j < l4.length := by simpa using h
  refine ⟨h4, ?_⟩
  by_cases e : j = k
  · subst e
    rw [if_pos rfl]
    simp [putF]
  · rw [if_neg e, List.getElem_set_ne (fun h => e h.symm), List.getElem_set_ne (fun h => e h.symm)]
theorem CInv.same {T C : Int} {l l4 : List Ang} {xs : List Int} {S : Int → Int} (h : CInv T C l xs S) (hl : l4.length = l.length) (htc : ∀ j (h : j < l4.length) (h0 : j < l.length), l4[j].t = l[j].t ∧ l4[j].c = l[j].c) : CInv T C l4 xs S := by
  refine ⟨hl.trans h.len, fun a ha => ?_, h.x01, fun v h0 h1 => ?_⟩
  · obtain ⟨j, hj, rfl⟩ := List.mem_iff_getElem.1 ha
    obtain ⟨e1, e2⟩ := htc j hj (by omega)
    rw [e1, e2]
    exact h.ang _ (List.getElem_mem _)
  · rw [← h.sum v h0 h1, hl]
    unfold sumsP
    refine sumR_congr fun i hi => ?_
    obtain ⟨e1, e2⟩ := htc i (by omega) hi
    rw [frL_at (by omega), frL_at hi, toL_at (by omega), toL_at hi, e1, e2]
theorem clamp_eq (y : Int) : (if 0 < (if y < 40 then y else 40) then (if y < 40 then y else 40) else 0) = max 0 (min 40 y) := by
  split <;> split <;> omega
/-- What Closed comes to: a net with too many angles, or a valid one with a truth within the error. -/
def ClosedOk (T C err : Int) (l : List Ang) (xs : List Int) : Prop :=
  l.length = xs.length ∧ ((l.length = 13 ∧ faultL l T C = 3) ∨ (NetOk l T C ∧ truthB l T C err xs = true))
theorem closed_ok {T C err : Int} {l : List Ang} {xs : List Int} {cs : Int → Int} (h : CInv T C l xs (S3 T C cs)) (hT : 0 ≤ T ∧ T ≤ 3) (hC : 0 ≤ C ∧ C ≤ 2) (he : 0 ≤ err ∧ err ≤ 40) (hpos : 0 < l.length) (h13 : l.length ≤ 13) (hr : ∀ i (hi : i < l.length), i < 12 → ReadOk err l[i] (fnOf xs i)) : ClosedOk T C err l xs := by
  refine ⟨h.len, ?_⟩
  by_cases h12 : l.length ≤ 12
  · right
    have hok : NetOk l T C := by
      refine ⟨hpos, h12, by omega, by omega, by omega, by omega, fun a ha => ?_⟩
      obtain ⟨i, hi, rfl⟩ := List.mem_iff_getElem.1 ha
      have h1 := h.ang _ ha
      obtain ⟨g0, g1, r0, r1, _, _⟩ := hr i hi (by omega)
      exact ⟨h1.1, h1.2.1, h1.2.2.1, h1.2.2.2, r0, r1, g0, g1⟩
    have hask : askedL l T C err = 0 := by unfold askedL; rw [if_neg (by rw [faultL_zero.2 hok]; simp), if_pos he]
    refine ⟨hok, truthB_iff.2 ⟨hask, h.len.symm, (truth_iff hok _).2 ⟨?_, ?_⟩⟩⟩
    · unfold roomsB
      rw [List.all_eq_true]
      intro i hi
      have hi' := List.mem_range.1 hi
      obtain ⟨g0, g1, r0, r1, a1, a2⟩ := hr i hi' (by omega)
      rw [inB_true, roomLo_at hi', roomHi_at hi']
      simp only [List.contains_nil, Bool.false_eq_true, if_false]
      exact ⟨a1, a2⟩
    · unfold sumsB
      rw [Bool.and_eq_true, List.all_eq_true, List.all_eq_true]
      constructor
      · intro t ht
        have ht' := List.mem_range.1 ht
        rw [beq_iff_eq, h.sum t (by omega) (by omega)]
        unfold S3
        rw [if_pos (by omega), if_pos (by omega)]
      · intro c hc
        have hc' := List.mem_range.1 hc
        rw [beq_iff_eq, h.sum (5 + c) (by omega) (by omega)]
        unfold S3
        rw [if_neg (by omega), if_pos (by omega)]
  · left
    refine ⟨by omega, ?_⟩
    unfold faultL
    rw [if_pos (.inl (by omega))]
theorem apart_types {w : World} {b b' e e' s s' n m : Nat} {v u : Value} {xs ys : List Value} (h : w.ownsRow b e s v n xs) (k : w.ownsRow b' e' s' u m ys) (he : e ≠ e') : v.ownBlock = none ∨ v.ownBlock ≠ u.ownBlock := by
  obtain ⟨_, ⟨rfl, _⟩ | ⟨g, cap, cur, rfl, _, h1, _⟩⟩ := h
  · exact .inl rfl
  · obtain ⟨_, ⟨rfl, _⟩ | ⟨g', cap', cur', rfl, _, k1, _⟩⟩ := k
    · right; simp [Value.ownBlock]
    · right
      intro hh
      have e1 : g = g' := by simpa [Value.ownBlock] using hh
      subst e1
      rw [h1] at k1
      cases k1
      exact he rfl
section
variable {w : World} {ops : Array Oper} {rest : List Oper} {o : Oper} {a : Act} {Q : Exit → Act → World → Prop}
theorem wpList_app_ang (hgd : o.guard = none) (s x : Operand) (ho : o.op = .call { callee := .builtin .append, args := #[s, x], argTypes := #[22, 22] }) (base : Nat) (v : Value) (l : List Ang) (y : Ang) (B : Nat)
    (hs : a.eval s = v) (hown : w.ownsRow base 71 4 v l.length (flatA l)) (hx : a.eval x = .slice (some ⟨B, 0, none⟩) 1 1) (hB : w.heap[B]? = some (.cells #[.int .i64 y.t, .int .i64 y.c, .int .i64 y.r, .int .i64 y.g] 71 (0, 0))) (hl : l.length ≤ 1000000) (hbase : base ≤ w.heap.size)
    (h : ∀ g cap w', w'.ownsRow base 71 4 (.slice (some ⟨g, 0, none⟩) (l.length + 1) cap) (l.length + 1) (flatA (l ++ [y])) → w.grownBy w' v.ownBlock → g < w'.heap.size → wpList Try.prog ops Q rest (a.put o.dst (.slice (some ⟨g, 0, none⟩) (l.length + 1) cap)) w') : wpList Try.prog ops Q (o :: rest) a w := by
  obtain ⟨i0, hi0, hz0, hz1, hz2⟩ := info_parts Try.info71
  refine wpList_append_lies w hgd s x 22 ho base 71 i0 _ 4 32 Try.underlying22 hi0 hz0 hz1 hz2 rfl (by decide) v l.length _ hs hown ⟨B, 0, none⟩ 1 1 [.int .i64 y.t, .int .i64 y.c, .int .i64 y.r, .int .i64 y.g] hx rfl (World.news_of_block (cs := #[.int .i64 y.t, .int .i64 y.c, .int .i64 y.r, .int .i64 y.g]) (t := 71) (fr := (0, 0)) hB) (by simp [Value.oneCell']) (by omega) (by unfold maxLen; omega) (by omega) hbase _ rfl ?_
  intro g cap w' h1 h2 h3 h4
  refine h g cap w' ?_ h2 h4
  have : flatA (l ++ [y]) = flatA l ++ [.int .i64 y.t, .int .i64 y.c, .int .i64 y.r, .int .i64 y.g] := by simp [flatA]
  rw [this]; exact h1
theorem wpList_app_int (hgd : o.guard = none) (s x : Operand) (ho : o.op = .call { callee := .builtin .append, args := #[s, x], argTypes := #[25, 25] }) (base : Nat) (v : Value) (xs : List Int) (y : Int) (B : Nat)
    (hs : a.eval s = v) (hown : w.ownsRow base 3 1 v xs.length (xs.map (Value.int .i64))) (hx : a.eval x = .slice (some ⟨B, 0, none⟩) 1 1) (hB : w.heap[B]? = some (.cells #[.int .i64 y] 3 (0, 0))) (hl : xs.length ≤ 1000000) (hbase : base ≤ w.heap.size)
    (h : ∀ g cap w', w'.ownsRow base 3 1 (.slice (some ⟨g, 0, none⟩) (xs.length + 1) cap) (xs.length + 1) (xs.map (Value.int .i64) ++ [.int .i64 y]) → w.grownBy w' v.ownBlock → g < w'.heap.size → wpList Try.prog ops Q rest (a.put o.dst (.slice (some ⟨g, 0, none⟩) (xs.length + 1) cap)) w') : wpList Try.prog ops Q (o :: rest) a w := by
  obtain ⟨i0, hi0, hz0, hz1, hz2⟩ := info_parts Try.info3
  refine wpList_append_lies w hgd s x 25 ho base 3 i0 (.int .i64 0) 1 8 Try.underlying25 hi0 hz0 hz1 hz2 rfl (by decide) v xs.length _ hs hown ⟨B, 0, none⟩ 1 1 [.int .i64 y] hx rfl (World.news_of_block (cs := #[.int .i64 y]) (t := 3) (fr := (0, 0)) hB) (by simp [Value.oneCell']) (by omega) (by unfold maxLen; omega) (by omega) hbase _ rfl ?_
  intro g cap w' h1 h2 h3 h4
  exact h g cap w' h1 h2 h4
end
/-- The net that is being made, its circles, its angles and their truth. -/
structure CMem (w : World) (Bn Bc : Nat) (T C : Int) (W : World) (va vt : Value) (l : List Ang) (xs : List Int) (cs : Int → Int) : Prop where
  below : Below w.heap.size w W
  net : W.heap[Bn]? = some (.cells #[va, .int .i64 T, .int .i64 C] 24 (0, 0))
  circ : W.heap[Bc]? = some (.cells #[.int .i64 (cs 0), .int .i64 (cs 1), .int .i64 (cs 2)] 126 (0, 0))
  angs : W.ownsRow (Bc + 1) 71 4 va l.length (flatA l)
  tr : W.ownsRow (Bc + 1) 3 1 vt xs.length (xs.map (Value.int .i64))
  b0 : w.heap.size ≤ Bn
  b1 : Bn < Bc
section
variable {w W W' : World} {Bn Bc : Nat} {T C : Int} {va vt : Value} {l : List Ang} {xs : List Int} {cs : Int → Int}
theorem CMem.lt (h : CMem w Bn Bc T C W va vt l xs cs) : Bn < W.heap.size ∧ Bc < W.heap.size := ⟨(Array.getElem?_eq_some_iff.1 h.net).1, (Array.getElem?_eq_some_iff.1 h.circ).1⟩
theorem CMem.keep (h : CMem w Bn Bc T C W va vt l xs cs) (hb : Below W.heap.size W W') : CMem w Bn Bc T C W' va vt l xs cs := by
  obtain ⟨l1, l2⟩ := h.lt
  have hg : W.grownBy W' none := ⟨hb.os, hb.tape, hb.output, hb.size, fun j hj _ => hb.block j hj⟩
  exact ⟨h.below.trans (hb.mono h.below.size), (hb.block _ l1).trans h.net, (hb.block _ l2).trans h.circ, h.angs.kept hg (own_none _), h.tr.kept hg (own_none _), h.b0, h.b1⟩
theorem CMem.slice (h : CMem w Bn Bc T C W va vt l xs cs) : ∃ A cap, va = .slice A l.length cap ∧ (0 < l.length → ∃ g, A = some ⟨g, 0, none⟩) := by
  obtain ⟨_, ⟨rfl, h0⟩ | ⟨g, cap, cur, rfl, _⟩⟩ := h.angs
  · exact ⟨none, 0, by rw [h0], fun h => by omega⟩
  · exact ⟨_, _, rfl, fun _ => ⟨g, rfl⟩⟩
theorem CMem.cells (h : CMem w Bn Bc T C W va vt l xs cs) : W.cell? ⟨Bn, 0, none⟩ = some va ∧ W.cell? ⟨Bn, 1, none⟩ = some (.int .i64 T) ∧ W.cell? ⟨Bn, 2, none⟩ = some (.int .i64 C) ∧ W.frozen? ⟨Bn, 0, none⟩ = false := by
  have := h.net
  refine ⟨?_, ?_, ?_, ?_⟩ <;> simp [World.cell?, World.frozen?, this]
theorem CMem.circle (h : CMem w Bn Bc T C W va vt l xs cs) {c : Nat} (hc : c < 3) : W.cell? ⟨Bc, c, none⟩ = some (.int .i64 (cs c)) ∧ W.frozen? ⟨Bc, c, none⟩ = false := by
  have := h.circ
  obtain rfl | rfl | rfl : c = 0 ∨ c = 1 ∨ c = 2 := by omega
  all_goals constructor <;> simp [World.cell?, World.frozen?, this]
theorem CMem.below1 (h : CMem w Bn Bc T C W va vt l xs cs) {oA : Obj} {w1 : World} (g1 : (W.alloc oA).grownBy w1 va.ownBlock) : Below w.heap.size w w1 := by
  obtain ⟨l1, l2⟩ := h.lt
  have hb0 := h.b0
  have hb1 := h.b1
  have z0 : (W.alloc oA).heap.size = W.heap.size + 1 := by simp
  have s1 := g1.size
  exact h.below.trans ⟨g1.os, g1.tape, g1.output, by have := h.below.size; omega, fun j hj => (g1.block j (by omega) (fun e => by have := h.angs.lt j e.symm; omega)).trans (Below.heap_alloc _ _ _ (by omega))⟩
theorem row_not_ang {w : World} {b n g : Nat} {v : Value} {xs : List Value} {l : List Ang} (h : w.ownsRow b 3 1 v n xs) (k : AngRow w g l) : v.ownBlock = none ∨ v.ownBlock ≠ some g := by
  obtain ⟨_, ⟨rfl, _⟩ | ⟨g', cap, cur, rfl, _, h1, _⟩⟩ := h
  · exact .inl rfl
  · right
    intro hh
    have e : g' = g := by simpa [Value.ownBlock] using hh
    subst e
    obtain ⟨c2, h2, _⟩ := k
    rw [h1] at h2
    cases h2
/-- A circle has grown. -/
theorem CMem.turn (h : CMem w Bn Bc T C W va vt l xs cs) {c : Nat} (hc : c < 3) (x : Int) : CMem w Bn Bc T C (W.setCell ⟨Bc, c, none⟩ (.int .i64 x)) va vt l xs (updG cs c x) := by
  have hlt := h.lt
  have hb1 := h.b1
  have hb0 := h.b0
  have ho : ∀ j, j ≠ Bc → (W.setCell ⟨Bc, c, none⟩ (.int .i64 x)).heap[j]? = W.heap[j]? := fun j hj => Below.heap_setCell _ _ _ _ hj
  have hg : W.grownBy (W.setCell ⟨Bc, c, none⟩ (.int .i64 x)) (some Bc) := ⟨rfl, rfl, rfl, by simp, fun j _ hj => ho j (fun e => hj (by rw [e]))⟩
  have hrow : ∀ {e s n : Nat} {v : Value} {ys : List Value}, W.ownsRow (Bc + 1) e s v n ys → v.ownBlock = none ∨ v.ownBlock ≠ some Bc := fun {e s n v ys} hh => by
    cases hv : v.ownBlock with
    | none => exact .inl rfl
    | some j => right; intro e; have := hh.lt j hv; cases e; omega
  refine ⟨h.below.setCell (by show w.heap.size ≤ Bc; omega) _, (ho Bn (by omega)).trans h.net, ?_, h.angs.kept hg (hrow h.angs), h.tr.kept hg (hrow h.tr), h.b0, h.b1⟩
  have := h.circ
  obtain rfl | rfl | rfl : c = 0 ∨ c = 1 ∨ c = 2 := by omega
  all_goals simp [World.setCell, Array.getElem?_modify, this, updG]
/-- One more angle with its truth. -/
theorem CMem.push (h : CMem w Bn Bc T C W va vt l xs cs) {oA oI : Obj} {y : Ang} {x : Int} {g cap g2 cap2 : Nat} {w1 w2 : World}
    (o1 : w1.ownsRow (Bc + 1) 71 4 (.slice (some ⟨g, 0, none⟩) (l.length + 1) cap) (l.length + 1) (flatA (l ++ [y]))) (g1 : (W.alloc oA).grownBy w1 va.ownBlock)
    (o2 : w2.ownsRow (Bc + 1) 3 1 (.slice (some ⟨g2, 0, none⟩) (xs.length + 1) cap2) (xs.length + 1) (xs.map (Value.int .i64) ++ [.int .i64 x])) (g2' : (w1.alloc oI).grownBy w2 vt.ownBlock) :
    w2.heap[Bn]? = some (.cells #[va, .int .i64 T, .int .i64 C] 24 (0, 0)) ∧
    CMem w Bn Bc T C (w2.setCell ⟨Bn, 0, none⟩ (.slice (some ⟨g, 0, none⟩) (l.length + 1) cap)) (.slice (some ⟨g, 0, none⟩) (l.length + 1) cap) (.slice (some ⟨g2, 0, none⟩) (xs.length + 1) cap2) (l ++ [y]) (xs ++ [x]) cs := by
  obtain ⟨l1, l2⟩ := h.lt
  have hb1 := h.b1
  have hb0 := h.b0
  have z0 : (W.alloc oA).heap.size = W.heap.size + 1 := by simp
  have z1 : (w1.alloc oI).heap.size = w1.heap.size + 1 := by simp
  have s1 := g1.size
  have s2 := g2'.size
  have n1 : ∀ j, j ≤ Bc → some j ≠ va.ownBlock := fun j hj e => by have := h.angs.lt j e.symm; omega
  have n2 : ∀ j, j ≤ Bc → some j ≠ vt.ownBlock := fun j hj e => by have := h.tr.lt j e.symm; omega
  have blk : ∀ j, j ≤ Bc → w2.heap[j]? = W.heap[j]? := fun j hj => (g2'.block j (by omega) (n2 j hj)).trans ((Below.heap_alloc _ _ _ (by omega)).trans ((g1.block j (by omega) (n1 j hj)).trans (Below.heap_alloc _ _ _ (by omega))))
  have hnet := (blk Bn (by omega)).trans h.net
  have tr1 := (h.tr.alloc oA).kept g1 (apart_types (h.tr.alloc oA) (h.angs.alloc oA) (by decide))
  have an2 := (o1.alloc oI).kept g2' (apart_types (o1.alloc oI) (tr1.alloc oI) (by decide))
  have hbe : Below w.heap.size w w2 := h.below.trans ⟨g2'.os.trans g1.os, g2'.tape.trans g1.tape, g2'.output.trans g1.output, by omega, fun j hj => blk j (by omega)⟩
  refine ⟨hnet, ?_⟩
  have ho : ∀ j, j ≠ Bn → (w2.setCell ⟨Bn, 0, none⟩ (.slice (some ⟨g, 0, none⟩) (l.length + 1) cap)).heap[j]? = w2.heap[j]? := fun j hj => Below.heap_setCell _ _ _ _ hj
  have hg : w2.grownBy (w2.setCell ⟨Bn, 0, none⟩ (.slice (some ⟨g, 0, none⟩) (l.length + 1) cap)) (some Bn) := ⟨rfl, rfl, rfl, by simp, fun j _ hj => ho j (fun e => hj (by rw [e]))⟩
  have hrow : ∀ {e s n : Nat} {v : Value} {ys : List Value}, w2.ownsRow (Bc + 1) e s v n ys → v.ownBlock = none ∨ v.ownBlock ≠ some Bn := fun {e s n v ys} hh => by
    cases hv : v.ownBlock with
    | none => exact .inl rfl
    | some j => right; intro e; have := hh.lt j hv; cases e; omega
  refine ⟨hbe.setCell (by show w.heap.size ≤ Bn; omega) _, ?_, (ho Bc (by omega)).trans ((blk Bc (by omega)).trans h.circ), by rw [List.length_append]; exact an2.kept hg (hrow an2), by rw [List.length_append, List.map_append]; exact o2.kept hg (hrow o2), h.b0, h.b1⟩
  simp [World.setCell, Array.getElem?_modify, hnet]
end
end
end Go.Proofs.Ytkloaeaepjoijaa

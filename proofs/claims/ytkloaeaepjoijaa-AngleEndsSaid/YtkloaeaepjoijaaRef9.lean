/-
  The reference: Bits, Less.
-/
import Derived.Test.YtkloaeaepjoijaaRef8
import Derived.Test.YtkloaeaepjoijaaLeaveLaw
set_option linter.all false
namespace Go.Proofs.Ytkloaeaepjoijaa
open Go.RowKit Go.WalkArith

/-- The numbers of the first bits. -/
def bitsK (bits k : Nat) : List Int := ((List.range k).filter bits.testBit).map fun i : Nat => (i : Int)
theorem bitsK_succ (bits k : Nat) : bitsK bits (k + 1) = if bits.testBit k then bitsK bits k ++ [(k : Int)] else bitsK bits k := by
  unfold bitsK
  rw [List.range_succ, List.filter_append, List.map_append]
  cases h : bits.testBit k <;> simp [h]
theorem bitsK_len (bits k : Nat) : (bitsK bits k).length ≤ k := by
  unfold bitsK
  rw [List.length_map]
  exact Nat.le_trans (List.length_filter_le _ _) (by simp)

def BRel9 (bits : Nat) (w : World) (v i : Value) (wr : World) : Prop :=
  ∃ k : Nat, k ≤ 16 ∧ i = .int .i64 k ∧ wr.ownsRow w.heap.size 3 1 v (bitsK bits k).length ((bitsK bits k).map (Value.int .i64)) ∧ Below w.heap.size w wr

set_option maxRecDepth 100000 in
set_option maxHeartbeats 4000000 in
theorem refBits_any (bits : Nat) (w : World) (hbits : bits < 65536) :
    Calls Try.prog 63 #[.int .i64 bits] w fun e w' => ∃ v, e = .returned v ∧ IntsAt w' v (bitsL bits) ∧ Below w.heap.size w w' := by
  obtain ⟨i0, hi0, hz0, hz1, hz2⟩ := info_parts Try.info3
  go_enter Try.func63, Try.ntmps63
  go_wp2_with fail
  go_loopw [3, 4] (BRel9 bits w) (fun _ i _ => 16 - (intOf i).toNat)
  case atStart => exact ⟨0, by omega, rfl, World.ownsRow_nil _ _ _ _, Below.refl _ _⟩
  case round =>
    obtain ⟨k, hk, rfl, hown, hBe⟩ := hrel
    by_cases hlt : k < 16
    · have hlt' : decide ((k : Int) < 16) = true := by simp; omega
      have hbit := bit_at bits k
      have HOW := Lib.hid hown
      have HBe := Lib.hid hBe
      have hsn := bitsK_succ bits k
      have hln := bitsK_len bits k
      obtain ⟨Av, capv, rfl⟩ := own_slice hown
      clear hown hBe
      cases htb : bits.testBit k with
      | false =>
        rw [htb] at hbit hsn
        have HSN := Lib.hid hsn
        clear hsn htb
        go_wp2_with fail
        go_roundw
        case rel => exact ⟨k + 1, by omega, by go_num, by rw [HSN.out]; exact HOW.out, HBe.out⟩
        case measure => simp [intOf]; omega
      | true =>
        rw [htb] at hbit hsn
        have HSN := Lib.hid hsn
        clear hsn htb
        go_wp2_with (at_builtin; refine wpList_append_own _ rfl _ _ 25 rfl w.heap.size 3 i0 (.int .i64 0) 1 8 Try.underlying25 hi0 hz0 hz1 hz2 rfl (by decide) _ _ _ rfl (HOW.out.alloc _) ⟨wr.heap.size, 0, none⟩ 1 1 [.int .i64 k] rfl rfl ?c1 ?c2 ?c3 ?c4 ?c5 ?_)
        case c2 => simp [Value.oneCell']
        case c3 => unfold maxLen; omega
        case c4 => omega
        case c5 => have := HBe.out.size; simp; omega
        intro v' w6 hown6 hgrow _
        have hbel6 : Below w.heap.size w w6 := by
          refine HBe.out.trans ?_
          have hsz := HBe.out.size
          have hbx : Below w.heap.size wr (wr.alloc (.cells #[.int .i64 k] 3)) := (((Below.refl _ wr).alloc (Nat.le_refl _) _).mono hsz)
          refine hbx.trans ⟨hgrow.os, hgrow.tape, hgrow.output, hgrow.size, fun j hj => hgrow.block j (by simp; omega) (fun e => ?_)⟩
          have := HOW.out.lt j e.symm
          omega
        have hown7 : w6.ownsRow w.heap.size 3 1 v' (bitsK bits (k + 1)).length ((bitsK bits (k + 1)).map (Value.int .i64)) := by
          rw [HSN.out]; simp only [if_true, List.map_append, List.length_append]; exact hown6
        have HOWN7 := Lib.hid hown7
        have HBEL6 := Lib.hid hbel6
        clear hown6 hgrow hbel6 hown7
        go_wp2_with fail
        go_roundw
        case rel => exact ⟨k + 1, by omega, by go_num, HOWN7.out, HBEL6.out⟩
        case measure => simp [intOf]; omega
    · have hlt' : decide ((k : Int) < 16) = false := by simp; omega
      obtain rfl : k = 16 := by omega
      have hI : IntsAt wr _ (bitsL bits) := IntsAt.of_own hown
      have HI := Lib.hid hI
      have HBe := Lib.hid hBe
      clear hown hI hBe
      go_wp2_with fail
      go_ret
      exact ⟨_, rfl, HI.out, HBe.out⟩

theorem lexB_at : ∀ {xs ys : List Int} {k : Nat} (h : xs.length = ys.length) (hk : k < xs.length), (∀ j, j < k → xs.getD j 0 = ys.getD j 0) → xs.getD k 0 ≠ ys.getD k 0 → lexB xs ys = decide (xs.getD k 0 < ys.getD k 0) := by
  intro xs
  induction xs with
  | nil => intro ys k _ hk; simp at hk
  | cons x xs ih =>
    intro ys k h hk hs hne
    cases ys with
    | nil => simp at h
    | cons y ys =>
      simp only [lexB]
      cases k with
      | zero => simp only [List.getD_cons_zero] at hne ⊢; rw [if_neg hne]
      | succ k =>
        have h0 := hs 0 (by omega)
        simp only [List.getD_cons_zero] at h0
        rw [if_pos h0]
        simp only [List.getD_cons_succ] at hne ⊢
        exact ih (by simpa using h) (by simpa using hk) (fun j hj => by have := hs (j + 1) (by omega); simpa using this) hne
theorem lexB_same : ∀ {xs ys : List Int}, xs.length = ys.length → (∀ j, j < xs.length → xs.getD j 0 = ys.getD j 0) → lexB xs ys = false := by
  intro xs
  induction xs with
  | nil => intro ys _ _; simp [lexB]
  | cons x xs ih =>
    intro ys h hs
    cases ys with
    | nil => simp at h
    | cons y ys =>
      simp only [lexB]
      have h0 := hs 0 (by simp)
      simp only [List.getD_cons_zero] at h0
      rw [if_pos h0]
      exact ih (by simpa using h) (fun j hj => by have := hs (j + 1) (by simpa using hj); simpa using this)

set_option maxRecDepth 100000 in
set_option maxHeartbeats 4000000 in
theorem refLess_any (va vb : Value) (xs ys : List Int) (w : World) (ha : IntsAt w va xs) (hb : IntsAt w vb ys) (hn : xs.length ≤ 1000000) (hm : ys.length ≤ 1000000) :
    Calls Try.prog 62 #[va, vb] w fun e w' => e = .returned (.bool (lessB xs ys)) ∧ Below w.heap.size w w' := by
  obtain ⟨A, cap, rfl, hx⟩ := ha
  obtain ⟨B, cap2, rfl, hy⟩ := hb
  have HX := Lib.hid hx
  have HY := Lib.hid hy
  clear hx hy
  by_cases hlen : xs.length = ys.length
  · have hle : ((xs.length : Int) == (ys.length : Int)) = true := by simp; omega
    have hln : decide (xs.length < ys.length) = false := by simp; omega
    have hll : decide ((xs.length : Int) < (ys.length : Int)) = false := by simp; omega
    have HLEN := Lib.hid hlen
    clear hlen
    go_enter Try.func62, Try.ntmps62
    go_wp2_with fail
    go_loopw [5] (fun i wr => ∃ k : Nat, k ≤ xs.length ∧ i = .int .i64 k ∧ (∀ j, j < k → xs.getD j 0 = ys.getD j 0) ∧ Below w.heap.size w wr) (fun i _ => xs.length - (intOf i).toNat)
    case atStart => exact ⟨0, by omega, rfl, fun j h => by omega, Below.refl _ _⟩
    case round =>
      obtain ⟨k, hk, rfl, hno, hbe⟩ := hrel
      have HN := Lib.hid hno
      have HBE := Lib.hid hbe
      clear hno hbe
      by_cases hlt : k < xs.length
      · obtain ⟨b, o, rfl, hc⟩ := HX.out.resolve_left (fun h => by rw [h] at hlt; simp at hlt)
        obtain ⟨b', o', rfl, hc'⟩ := HY.out.resolve_left (fun h => by have hq := HLEN.out; rw [h] at hq; simp at hq; rw [hq] at hlt; simp at hlt)
        have hlt' : decide ((k : Int) < (xs.length : Int)) = true := by simpa using hlt
        have hlt2 : decide ((k : Int) < (ys.length : Int)) = true := by have := HLEN.out; simp; omega
        have ck := hc k hlt
        have ck' := hc' k (by have := HLEN.out; omega)
        have hbl := World.block_lt_of_cell? w _ ck
        have hbl' := World.block_lt_of_cell? w _ ck'
        rw [← HBE.out.cell hbl] at ck
        rw [← HBE.out.cell hbl'] at ck'
        obtain ⟨x, hx⟩ : ∃ x, xs[k] = x := ⟨_, rfl⟩
        obtain ⟨y, hy⟩ : ∃ y, ys[k]'(by have := HLEN.out; omega) = y := ⟨_, rfl⟩
        rw [hx] at ck
        rw [hy] at ck'
        have hxd : xs.getD k 0 = x := by simp [hlt, hx]
        have hyd : ys.getD k 0 = y := by simp [show k < ys.length by have := HLEN.out; omega, hy]
        have i1 : (0 : Int) ≤ (k : Int) := by omega
        have i2 : (k : Int) < (xs.length : Int) := by omega
        have i3 : (k : Int) < (ys.length : Int) := by have := HLEN.out; omega
        by_cases hxy : x = y
        · have hne : (x != y) = false := by simpa using hxy
          have HXY := Lib.hid (hxd.trans (hxy.trans hyd.symm))
          clear hxd hyd hx hy hc hc' hxy
          go_wp2_with fail
          go_quiet (fail)
          go_wp2_with fail
          go_roundw
          case rel => exact ⟨k + 1, by omega, by go_num, fun j hj => by
            by_cases e : j = k
            · rw [e]; exact HXY.out
            · exact HN.out j (by omega), HBE.out.drewN _⟩
          case measure => simp [intOf]; omega
        · have hne : (x != y) = true := by simpa using hxy
          have hf : lessB xs ys = decide (x < y) := by
            unfold lessB
            rw [if_pos HLEN.out, lexB_at HLEN.out hlt HN.out (by rw [hxd, hyd]; exact hxy), hxd, hyd]
          have HF := Lib.hid hf
          clear hxd hyd hx hy hc hc' hxy hf
          go_wp2_with fail
          go_quiet (fail)
          go_wp2_with fail
          go_quiet (fail)
          go_wp2_with fail
          go_ret
          exact ⟨by rw [HF.out]; rfl, (HBE.out.drewN _).drewN _⟩
      · have hlt' : decide ((k : Int) < (xs.length : Int)) = false := by simpa using hlt
        have hf : lessB xs ys = false := by
          unfold lessB
          rw [if_pos HLEN.out]
          exact lexB_same HLEN.out fun j hj => HN.out j (by omega)
        have HF := Lib.hid hf
        clear hf
        go_wp2_with fail
        go_ret
        exact ⟨by rw [HF.out, ← hln]; rfl, HBE.out⟩
  · have hle : ((xs.length : Int) == (ys.length : Int)) = false := by simp; omega
    have hf : lessB xs ys = decide (xs.length < ys.length) := by
      unfold lessB
      rw [if_neg hlen]
    have HF := Lib.hid hf
    clear hf
    go_enter Try.func62, Try.ntmps62
    by_cases hpos : 0 < xs.length
    · have hlt' : decide ((0 : Int) < (xs.length : Int)) = true := by simpa using hpos
      go_wp2_with fail
      go_loopw [5] (fun i wr => i = .int .i64 0 ∧ wr = w) (fun i _ => 0)
      case atStart => exact ⟨rfl, rfl⟩
      case round =>
        obtain ⟨rfl, rfl⟩ := hrel
        go_wp2_with fail
        go_ret
        exact ⟨by rw [HF.out]; rfl, Below.refl _ _⟩
    · have hlt' : decide ((0 : Int) < (xs.length : Int)) = false := by simpa using hpos
      go_wp2_with fail
      go_loopw [5] (fun i wr => i = .int .i64 0 ∧ wr = w) (fun i _ => 0)
      case atStart => exact ⟨rfl, rfl⟩
      case round =>
        obtain ⟨rfl, rfl⟩ := hrel
        go_wp2_with fail
        go_ret
        exact ⟨by rw [HF.out]; rfl, Below.refl _ _⟩
end Go.Proofs.Ytkloaeaepjoijaa

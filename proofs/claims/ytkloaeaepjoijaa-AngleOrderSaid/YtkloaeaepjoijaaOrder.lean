/-
  AngleOrder: the walk.
-/
import Derived.Test.YtkloaeaepjoijaaTurnLaw
set_option linter.all false
namespace Go.Proofs.Ytkloaeaepjoijaa
open Go.RowKit Go.WalkArith

theorem AngRow.putT {W : World} {g : Nat} {L : List Ang} (h : AngRow W g L) {i : Nat} {a : Ang} (hi : i < L.length) (e : L[i] = a) (x : Int) : AngRow (W.setCell ⟨g, i * 4, none⟩ (.int .i64 x)) g (L.set i ⟨x, a.c, a.r, a.g⟩) := by
  have := h.put hi (f := 0) (by omega) x
  rw [e] at this
  exact this
theorem AngRow.putC {W : World} {g : Nat} {L : List Ang} (h : AngRow W g L) {i : Nat} {a : Ang} (hi : i < L.length) (e : L[i] = a) (x : Int) : AngRow (W.setCell ⟨g, i * 4 + 1, none⟩ (.int .i64 x)) g (L.set i ⟨a.t, x, a.r, a.g⟩) := by
  have := h.put hi (f := 1) (by omega) x
  rw [e] at this
  exact this

def ORel (l : List Ang) (T C k j : Int) (g : Nat) (Bi Bx : Nat) (net xnet : Obj) (w : World) (i : Value) (wr : World) : Prop :=
  ∃ m : Nat, m ≤ l.length ∧ i = .int .i64 m ∧ AngRow wr g (rotK T C k j l m) ∧ wr.heap[Bi]? = some net ∧ wr.heap[Bx]? = some xnet ∧ Below w.heap.size w wr

theorem tmod_turn {x n : Int} (h0 : 0 ≤ x) : x.tmod n = x % n := Int.tmod_eq_emod_of_nonneg h0

section
variable {T C k j : Int} {l : List Ang}
theorem rot_least (hok : NetOk l T C) (hk : 0 ≤ k) (hj : 0 ≤ j) : leastN (rotL T C k j l) T C = leastN l T C ∧ leastE (rotL T C k j l) T C = leastE l T C := by
  have f1 := faultL_zero.2 hok
  have f2 := faultL_zero.2 (rotL_ok hok hk hj)
  have e : leastO (rotL T C k j l) T C = leastO l T C := by
    unfold leastO
    congr 1
    funext e
    exact rotL_canE hok hk hj _ _
  unfold leastN leastE
  rw [f1, f2, e]
  exact ⟨rfl, rfl⟩
theorem rot_leave (hok : NetOk l T C) (hk : 0 ≤ k) (hj : 0 ≤ j) (e : Int) : leaveO (rotL T C k j l) T C e = leaveO l T C e := by
  have h : canE (rotL T C k j l) T C e = canE l T C e := by funext out; exact rotL_canE hok hk hj _ _
  unfold leaveO
  rw [h, rotL_len]
theorem rot_sure (hok : NetOk l T C) (hk : 0 ≤ k) (hj : 0 ≤ j) (e : Int) : sureL (rotL T C k j l) T C e = sureL l T C e := by
  unfold sureL askedL
  rw [rotL_canE hok hk hj, faultL_zero.2 hok, faultL_zero.2 (rotL_ok hok hk hj)]
theorem rot_bounds (hok : NetOk l T C) (hk : 0 ≤ k) (hj : 0 ≤ j) {e : Int} {al ah bl bh : Int → Int} (h1 : BoundsE l T C e l.length al ah) (h2 : BoundsE (rotL T C k j l) T C e (rotL T C k j l).length bl bh) (i : Nat) (hi : i < l.length) : bl i = al i ∧ bh i = ah i := by
  have hr := rotL_room (T := T) (C := C) (k := k) (j := j) (l := l) e []
  have hp : ∀ x, pointB (rotL T C k j l) T C (roomLo (rotL T C k j l) e []) (roomHi (rotL T C k j l) e []) i x = pointB l T C (roomLo l e []) (roomHi l e []) i x := fun x => by
    unfold pointB
    rw [rotL_can hok hk hj]
    refine canB_congr (fun m hm => ?_) (fun m hm => ?_)
    · unfold updG; split
      · rfl
      · exact (hr m).1
    · unfold updG; split
      · rfl
      · exact (hr m).2
  have a1 := h2.lo i (by rw [rotL_len]; exact hi)
  have a2 := h2.hi i (by rw [rotL_len]; exact hi)
  rw [funext hp, (hr i).1, (hr i).2] at a1 a2
  exact ⟨low_unique a1 (h1.lo i hi), high_unique a2 (h1.hi i hi)⟩
theorem rot_asked (hok : NetOk l T C) (hk : 0 ≤ k) (hj : 0 ≤ j) {e : Int} (h : askedL l T C e = 0) : askedL (rotL T C k j l) T C e = 0 := by
  unfold askedL at h ⊢
  rw [faultL_zero.2 (rotL_ok hok hk hj)]
  rw [faultL_zero.2 hok] at h
  exact h
end

theorem LeaveIs.same {l l' : List Ang} {T C e : Int} {L L' : List Int} {E E' : Int} (h : leaveO l' T C e = leaveO l T C e) (h1 : LeaveIs l T C e L E) (h2 : LeaveIs l' T C e L' E') : L = L' ∧ E = E' := by
  unfold LeaveIs at h1 h2
  rw [h] at h2
  rcases h1 with ⟨a, rfl, rfl⟩ | ⟨a, rfl⟩ <;> rcases h2 with ⟨b, rfl, rfl⟩ | ⟨b, rfl⟩
  · exact ⟨rfl, rfl⟩
  · rw [a] at b; cases b
  · rw [a] at b; cases b
  · rw [a] at b; exact ⟨by simpa using b, rfl⟩
theorem leave_least {l : List Ang} {T C e : Int} {L : List Int} {E E' : Int} (hok : NetOk l T C) (he0 : 0 ≤ e) (_ : e ≤ 40) (hE : leastE l T C = E) (h : LeaveIs l T C e L E') : E = E' := by
  rw [h.err, ← hE]
  have h40 : (leastO l T C).isSome = canE l T C 40 [] := by
    cases q : leastO l T C with
    | none => exact (leastO_none q 40 (by omega)).symm
    | some k =>
      obtain ⟨a, b, _⟩ := leastO_some q
      exact (canE_more hok (by omega) a).symm
  have h2 : canE l T C 40 [] = canE l T C e (bitsL (2 ^ l.length - 1)) := by
    have hr : ∀ i : Nat, i < l.length → roomLo l 40 [] i = 0 ∧ roomHi l 40 [] i = 40 := fun j hj => by
      have hx := hok.ang l[j] (List.getElem_mem hj)
      rw [roomLo_at hj, roomHi_at hj]
      simp only [List.contains_nil, Bool.false_eq_true, if_false]
      omega
    have hn := hok.len
    exact canB_congr (fun i hi => by rw [(hr i hi).1, (full_room (by omega) e hi).1]) (fun i hi => by rw [(hr i hi).2, (full_room (by omega) e hi).2])
  rw [leaveO_full hok he0, ← h2, ← h40]
  unfold leastE
  rw [faultL_zero.2 hok]
  cases leastO l T C <;> simp
theorem RangesAt.at2 {W : World} {A : Option Addr} {n cap : Nat} {lo hi : Int → Int} (h : RangesAt W (.slice A n cap) n lo hi) {k : Nat} (hk : k < n) : ∃ b o, A = some ⟨b, o, none⟩ ∧ W.cell? ⟨b, o + k * 2, none⟩ = some (.int .i64 (lo k)) ∧ W.cell? ⟨b, o + k * 2 + 1, none⟩ = some (.int .i64 (hi k)) := by
  obtain ⟨A', c, he, h⟩ := h
  obtain ⟨rfl, rfl⟩ : A = A' ∧ cap = c := by simpa using he
  obtain ⟨b, o, rfl, hc⟩ := h.resolve_left (by omega)
  exact ⟨b, o, rfl, (hc k hk).1, (hc k hk).2⟩
def OBRel (n : Nat) (w2 : World) (i : Value) (wr : World) : Prop := ∃ k : Nat, k ≤ n ∧ i = .int .i64 k ∧ Below w2.heap.size w2 wr

set_option maxRecDepth 100000 in
set_option maxHeartbeats 1000000 in
theorem order_walk (A : Option Addr) (n cap : Nat) (T C : Int) (l : List Ang) (er by_ : Int) (w : World)
    (hl : l.length = n) (hA : AngsAt w A l) (_ : NilOk A cap) (he0 : 0 ≤ er) (he1 : er ≤ 255) (hb0 : 0 ≤ by_) (hb1 : by_ ≤ 255) :
    Calls Try.prog 14 #[.agg #[.slice A n cap, .int .i64 T, .int .i64 C], .int .u8 er, .int .u8 by_] w fun e w' => e = .returned (.bool true) ∧ Below w.heap.size w w' := by
  obtain ⟨i0, hi0, hz0, hz1, hz2⟩ := info_parts Try.info71
  subst hl
  have HA := Lib.hid hA
  clear hA
  have hB0 : Below w.heap.size w (w.alloc (.cells #[.slice A l.length cap, .int .i64 T, .int .i64 C] 24)) := (Below.refl _ _).alloc (Nat.le_refl _) _
  have hn0 : (w.alloc (.cells #[.slice A l.length cap, .int .i64 T, .int .i64 C] 24)).heap[w.heap.size]? = some (.cells #[.slice A l.length cap, .int .i64 T, .int .i64 C] 24 (0, 0)) := heap_new_at _ _ _ rfl
  have HB1 := Lib.hid hB0
  have NBi1 := Lib.hid hn0
  clear hB0 hn0
  go_enter Try.func14, Try.ntmps14
  go_wp2_with fail
  generalize (w.alloc (.cells #[.slice A l.length cap, .int .i64 T, .int .i64 C] 24)) = w1 at HB1 NBi1 ⊢
  obtain ⟨Bi, hBi⟩ : ∃ Bi, w.heap.size = Bi := ⟨_, rfl⟩
  have oBi : w.heap.size ≤ Bi := by omega
  rw [hBi] at NBi1 ⊢
  clear hBi
  have cBi0_1 : w1.cell? ⟨Bi, 0, none⟩ = some (.slice A l.length cap) := by simp [World.cell?, NBi1.out]
  have cBi1_1 : w1.cell? ⟨Bi, 1, none⟩ = some (.int .i64 T) := by simp [World.cell?, NBi1.out]
  have cBi2_1 : w1.cell? ⟨Bi, 2, none⟩ = some (.int .i64 C) := by simp [World.cell?, NBi1.out]
  have hth := Lib.hid (thin_any A l.length cap T C w1)
  by_cases h15 : l.length ≤ 15
  rotate_left
  · have hx15 : 15 < l.length := by omega
    rw [show decide (l.length ≤ 15) = false from (by simp; omega)] at hth
    go_wp2_with fail
    refine (hth.out).mono ?_
    rintro e w2 ⟨rfl, hb⟩
    have HB2 := Lib.hid ((HB1.out).trans (hb.mono (HB1.out).size))
    have NBi2 := Lib.hid ((hb.block Bi (Array.getElem?_eq_some_iff.1 NBi1.out).1).trans NBi1.out)
    clear HB1 NBi1 cBi0_1 cBi1_1 cBi2_1  hb hth
    have cBi0_2 : w2.cell? ⟨Bi, 0, none⟩ = some (.slice A l.length cap) := by simp [World.cell?, NBi2.out]
    have cBi1_2 : w2.cell? ⟨Bi, 1, none⟩ = some (.int .i64 T) := by simp [World.cell?, NBi2.out]
    have cBi2_2 : w2.cell? ⟨Bi, 2, none⟩ = some (.int .i64 C) := by simp [World.cell?, NBi2.out]
    go_wp2_with fail
    refine (awake_any _).mono ?_
    rintro e w3 ⟨rfl, hb⟩
    have HB3 := Lib.hid ((HB2.out).trans (hb.mono (HB2.out).size))
    have NBi3 := Lib.hid ((hb.block Bi (Array.getElem?_eq_some_iff.1 NBi2.out).1).trans NBi2.out)
    clear HB2 NBi2 cBi0_2 cBi1_2 cBi2_2  hb 
    have cBi0_3 : w3.cell? ⟨Bi, 0, none⟩ = some (.slice A l.length cap) := by simp [World.cell?, NBi3.out]
    have cBi1_3 : w3.cell? ⟨Bi, 1, none⟩ = some (.int .i64 T) := by simp [World.cell?, NBi3.out]
    have cBi2_3 : w3.cell? ⟨Bi, 2, none⟩ = some (.int .i64 C) := by simp [World.cell?, NBi3.out]
    go_wp2_with fail
    go_ret
    exact ⟨rfl, HB3.out⟩
  · rw [show decide (l.length ≤ 15) = true from (by simp; omega)] at hth
    go_wp2_with fail
    refine (hth.out).mono ?_
    rintro e w2 ⟨rfl, hb⟩
    have HB2 := Lib.hid ((HB1.out).trans (hb.mono (HB1.out).size))
    have NBi2 := Lib.hid ((hb.block Bi (Array.getElem?_eq_some_iff.1 NBi1.out).1).trans NBi1.out)
    clear HB1 NBi1 cBi0_1 cBi1_1 cBi2_1  hb hth
    have cBi0_2 : w2.cell? ⟨Bi, 0, none⟩ = some (.slice A l.length cap) := by simp [World.cell?, NBi2.out]
    have cBi1_2 : w2.cell? ⟨Bi, 1, none⟩ = some (.int .i64 T) := by simp [World.cell?, NBi2.out]
    have cBi2_2 : w2.cell? ⟨Bi, 2, none⟩ = some (.int .i64 C) := by simp [World.cell?, NBi2.out]
    have hfa := Lib.hid (lawFault_any A l.length cap T C l w2 (by omega) rfl (HA.out.keep HB2.out (Nat.le_refl _)))
    by_cases hf0 : faultL l T C = 0
    rotate_left
    · obtain ⟨F, hF⟩ : ∃ F, faultL l T C = F := ⟨_, rfl⟩
      rw [hF] at hfa hf0
      have hne : (F != 0) = true := by simpa using hf0
      clear hF hf0
      go_wp2_with fail
      refine (hfa.out).mono ?_
      rintro e w3 ⟨rfl, hb⟩
      have HB3 := Lib.hid ((HB2.out).trans (hb.mono (HB2.out).size))
      have NBi3 := Lib.hid ((hb.block Bi (Array.getElem?_eq_some_iff.1 NBi2.out).1).trans NBi2.out)
      clear HB2 NBi2 cBi0_2 cBi1_2 cBi2_2  hb hfa
      have cBi0_3 : w3.cell? ⟨Bi, 0, none⟩ = some (.slice A l.length cap) := by simp [World.cell?, NBi3.out]
      have cBi1_3 : w3.cell? ⟨Bi, 1, none⟩ = some (.int .i64 T) := by simp [World.cell?, NBi3.out]
      have cBi2_3 : w3.cell? ⟨Bi, 2, none⟩ = some (.int .i64 C) := by simp [World.cell?, NBi3.out]
      go_wp2_with fail
      refine (awake_any _).mono ?_
      rintro e w4 ⟨rfl, hb⟩
      have HB4 := Lib.hid ((HB3.out).trans (hb.mono (HB3.out).size))
      have NBi4 := Lib.hid ((hb.block Bi (Array.getElem?_eq_some_iff.1 NBi3.out).1).trans NBi3.out)
      clear HB3 NBi3 cBi0_3 cBi1_3 cBi2_3  hb 
      have cBi0_4 : w4.cell? ⟨Bi, 0, none⟩ = some (.slice A l.length cap) := by simp [World.cell?, NBi4.out]
      have cBi1_4 : w4.cell? ⟨Bi, 1, none⟩ = some (.int .i64 T) := by simp [World.cell?, NBi4.out]
      have cBi2_4 : w4.cell? ⟨Bi, 2, none⟩ = some (.int .i64 C) := by simp [World.cell?, NBi4.out]
      go_wp2_with fail
      go_ret
      exact ⟨rfl, HB4.out⟩
    · rw [hf0] at hfa
      have hok := faultL_zero.1 hf0
      obtain ⟨b, o, hAe⟩ := HA.out.some hok.pos
      subst hAe
      have HO := Lib.hid hok
      have hn12 := hok.len
      have hpos := hok.pos
      clear hok hf0
      go_wp2_with fail
      refine (hfa.out).mono ?_
      rintro e w3 ⟨rfl, hb⟩
      have HB3 := Lib.hid ((HB2.out).trans (hb.mono (HB2.out).size))
      have NBi3 := Lib.hid ((hb.block Bi (Array.getElem?_eq_some_iff.1 NBi2.out).1).trans NBi2.out)
      clear HB2 NBi2 cBi0_2 cBi1_2 cBi2_2  hb hfa
      have cBi0_3 : w3.cell? ⟨Bi, 0, none⟩ = some (.slice (some ⟨b, o, none⟩) l.length cap) := by simp [World.cell?, NBi3.out]
      have cBi1_3 : w3.cell? ⟨Bi, 1, none⟩ = some (.int .i64 T) := by simp [World.cell?, NBi3.out]
      have cBi2_3 : w3.cell? ⟨Bi, 2, none⟩ = some (.int .i64 C) := by simp [World.cell?, NBi3.out]
      have lBi := (Array.getElem?_eq_some_iff.1 NBi3.out).1
      have hX0 := (copy_block lBi (.cells #[.slice (some ⟨b, o, none⟩) l.length cap, .int .i64 T, .int .i64 C] 24) (.cells #[] 71)).trans NBi3.out
      have hX1 : ((w3.alloc (.cells #[.slice (some ⟨b, o, none⟩) l.length cap, .int .i64 T, .int .i64 C] 24)).alloc (.cells #[] 71)).cell? ⟨Bi, 0, none⟩ = some (.slice (some ⟨b, o, none⟩) l.length cap) := by simp only [World.cell?, hX0]; rfl
      have hMD := Lib.hid (copy_made w3 (.slice (some ⟨b, o, none⟩) l.length cap) T C)
      have hFL := Lib.hid (copy_flat (HA.out.keep HB3.out (Nat.le_refl _)) (.cells #[.slice (some ⟨b, o, none⟩) l.length cap, .int .i64 T, .int .i64 C] 24) (.cells #[] 71))
      clear hX0
      go_wp2_with (at_builtin; refine wpList_append_own _ rfl _ _ 22 rfl (w3.heap.size + 1) 71 i0 (.agg #[.int .i64 0, .int .i64 0, .int .i64 0, .int .i64 0]) 4 32 Try.underlying22 hi0 hz0 hz1 hz2 rfl (by decide) _ 0 [] rfl hMD.out ⟨b, o, none⟩ l.length cap (flatA l) rfl (flatA_length _) hFL.out (flatA_one _) ?c3 ?c4 ?c5 ?_)
      case c3 => unfold maxLen; omega
      case c4 => omega
      case c5 => simp
      intro v' w1x hown1 hgrow _
      obtain ⟨gx, cpx, rfl, hx1, hcop⟩ := copied (Bi := Bi) (w0 := w) rfl hpos HB3.out lBi hown1 hgrow
      have z0 : w1x.frozen? ⟨w3.heap.size, 0, none⟩ = false := by simp [World.frozen?, hx1]
      have z1 : w1x.cell? ⟨w3.heap.size, 0, none⟩ = some (.slice (some ⟨b, o, none⟩) l.length cap) := by simp only [World.cell?, hx1]; rfl
      have HCOP := Lib.hid hcop
      clear hown1 hgrow hcop hMD hFL hX1 hx1
      go_wp2_with fail
      generalize w1x.setCell ⟨w3.heap.size, 0, none⟩ (.slice (some ⟨gx, 0, none⟩) l.length cpx) = w4 at HCOP ⊢
      obtain ⟨Bx, hBx⟩ : ∃ B, w3.heap.size = B := ⟨_, rfl⟩
      have oBx : w.heap.size ≤ Bx := by have := HB3.out.size; omega
      have oBix : Bi < Bx := by omega
      rw [hBx] at HCOP ⊢
      have HB4 := Lib.hid HCOP.out.below
      have NBi4 := Lib.hid (HCOP.out.old.trans NBi3.out)
      have NBx4 := Lib.hid HCOP.out.new
      have FRx4 := Lib.hid HCOP.out.row
      have gBx := HCOP.out.far
      clear HCOP z0 z1 hBx
      clear HB3 NBi3 cBi0_3 cBi1_3 cBi2_3 
      have cBi0_4 : w4.cell? ⟨Bi, 0, none⟩ = some (.slice (some ⟨b, o, none⟩) l.length cap) := by simp [World.cell?, NBi4.out]
      have cBi1_4 : w4.cell? ⟨Bi, 1, none⟩ = some (.int .i64 T) := by simp [World.cell?, NBi4.out]
      have cBi2_4 : w4.cell? ⟨Bi, 2, none⟩ = some (.int .i64 C) := by simp [World.cell?, NBi4.out]
      have cBx0_4 : w4.cell? ⟨Bx, 0, none⟩ = some (.slice (some ⟨gx, 0, none⟩) l.length cpx) := by simp [World.cell?, NBx4.out]
      have cBx1_4 : w4.cell? ⟨Bx, 1, none⟩ = some (.int .i64 T) := by simp [World.cell?, NBx4.out]
      have cBx2_4 : w4.cell? ⟨Bx, 2, none⟩ = some (.int .i64 C) := by simp [World.cell?, NBx4.out]
      obtain ⟨kk, hkk⟩ : ∃ q, by_ % 16 = q := ⟨_, rfl⟩
      obtain ⟨jj, hjj⟩ : ∃ q, by_.tdiv 16 = q := ⟨_, rfl⟩
      have hjd : by_ / 16 = jj := by rw [← hjj, Int.tdiv_eq_ediv_of_nonneg hb0]
      have k0 : 0 ≤ kk := by omega
      have k1 : kk ≤ 15 := by omega
      have j0 : 0 ≤ jj := by omega
      have j1 : jj ≤ 15 := by omega
      have FR0 := Lib.hid (show AngRow w4 gx (rotK T C kk jj l 0) by rw [rotK_zero]; exact FRx4.out)
      have t0 := HO.out.t0
      have t1 := HO.out.t1
      have c0 := HO.out.c0
      have c1 := HO.out.c1
      go_loopw [8] (ORel l T C kk jj gx Bi Bx (.cells #[.slice (some ⟨b, o, none⟩) l.length cap, .int .i64 T, .int .i64 C] 24 (0, 0)) (.cells #[.slice (some ⟨gx, 0, none⟩) l.length cpx, .int .i64 T, .int .i64 C] 24 (0, 0)) w) (fun i _ => l.length - (intOf i).toNat)
      case atStart => exact ⟨0, by omega, rfl, FR0.out, NBi4.out, NBx4.out, HB4.out⟩
      case round =>
        clear FR0 FRx4 NBi4 NBx4 HB4 cBi0_4 cBi1_4 cBi2_4 cBx0_4 cBx1_4 cBx2_4
        obtain ⟨q, hq, rfl, hrow, hI, hX, hBe⟩ := hrel
        have x0 : wr.cell? ⟨Bx, 0, none⟩ = some (.slice (some ⟨gx, 0, none⟩) l.length cpx) := by simp [World.cell?, hX]
        have y1 : wr.cell? ⟨Bi, 1, none⟩ = some (.int .i64 T) := by simp [World.cell?, hI]
        have HI := Lib.hid hI
        have HX := Lib.hid hX
        have HBe := Lib.hid hBe
        have HROW := Lib.hid hrow
        clear hI hX hBe hrow
        by_cases hlt : q < l.length
        · have hlt' : decide ((q : Int) < (l.length : Int)) = true := by simpa using hlt
          have i1 : (0 : Int) ≤ (q : Int) := by omega
          have i2 : (q : Int) < (l.length : Int) := by omega
          have hqk : q < (rotK T C kk jj l q).length := by rw [rotK_len]; exact hlt
          have hat := rotK_at (T := T) (C := C) (k := kk) (j := jj) hlt
          have hstep := rotK_step (T := T) (C := C) (k := kk) (j := jj) hlt
          have hang := HO.out.ang l[q] (List.getElem_mem hlt)
          obtain ⟨a, ha⟩ : ∃ a, l[q] = a := ⟨_, rfl⟩
          rw [ha] at hat hstep hang
          have hcl := HROW.out.cells hqk
          rw [hat] at hcl
          obtain ⟨z0, z1, _, _⟩ := hcl
          have f0 := HROW.out.frozen (q * 4)
          have HAT := Lib.hid hat
          have HST := Lib.hid hstep
          have a0 : a.t < T := hang.2.1
          have a1 : a.c < C := hang.2.2.2.1
          have a2 : -1 ≤ a.t := hang.1
          have a3 : -1 ≤ a.c := hang.2.2.1
          clear hat hstep hang ha
          obtain ⟨t2, ht2⟩ : ∃ x, rotI T kk a.t = x := ⟨_, rfl⟩
          obtain ⟨c2, hc2⟩ : ∃ x, rotI C jj a.c = x := ⟨_, rfl⟩
          have HRA := Lib.hid (show rotA T C kk jj a = ⟨t2, c2, a.r, a.g⟩ by unfold rotA; rw [ht2, hc2])
          by_cases ht : 0 ≤ a.t
          · have hdt : decide (0 ≤ a.t) = true := by simpa using ht
            have hm : (a.t + kk).tmod T = t2 := by rw [tmod_turn (by omega), ← ht2]; unfold rotI; rw [if_pos ht]
            have hT0 : T ≠ 0 := by omega
            clear ht2 z1
            go_wp2_with fail
            go_region
            have hr2 := HROW.out.putT hqk HAT.out t2
            have hI2 : (wr.setCell ⟨gx, q * 4, none⟩ (.int .i64 t2)).drew.heap[Bi]? = _ := (Below.heap_setCell wr ⟨gx, q * 4, none⟩ (.int .i64 t2) _ (by show Bi ≠ gx; omega)).trans HI.out
            have hX2 : (wr.setCell ⟨gx, q * 4, none⟩ (.int .i64 t2)).drew.heap[Bx]? = _ := (Below.heap_setCell wr ⟨gx, q * 4, none⟩ (.int .i64 t2) _ (by show Bx ≠ gx; omega)).trans HX.out
            have hB2 : Below w.heap.size w (wr.setCell ⟨gx, q * 4, none⟩ (.int .i64 t2)).drew := (HBe.out.setCell (by simp; omega) _).drew
            replace hr2 := hr2.of_block (W' := (wr.setCell ⟨gx, q * 4, none⟩ (.int .i64 t2)).drew) rfl
            generalize (wr.setCell ⟨gx, q * 4, none⟩ (.int .i64 t2)).drew = wz at hr2 hI2 hX2 hB2 ⊢
            have HR2 := Lib.hid hr2
            have HI2 := Lib.hid hI2
            have HX2 := Lib.hid hX2
            have HB2 := Lib.hid hB2
            clear hr2 hI2 hX2 hB2 HROW HI HX HBe x0 y1 z0 f0 hdt hm ht
            have hq2 : q < ((rotK T C kk jj l q).set q ⟨t2, a.c, a.r, a.g⟩).length := by rw [List.length_set]; exact hqk
            have hg2 : ((rotK T C kk jj l q).set q ⟨t2, a.c, a.r, a.g⟩)[q]'hq2 = ⟨t2, a.c, a.r, a.g⟩ := List.getElem_set_self _
            have hcl := HR2.out.cells hq2
            rw [hg2] at hcl
            obtain ⟨_, z1, _, _⟩ := hcl
            have f1 := HR2.out.frozen (q * 4 + 1)
            have y2 : wz.cell? ⟨Bi, 2, none⟩ = some (.int .i64 C) := by simp [World.cell?, HI2.out]
            have HG2 := Lib.hid hg2
            clear hg2
            by_cases hc : 0 ≤ a.c
            · have hdc : decide (0 ≤ a.c) = true := by simpa using hc
              have hm : (a.c + jj).tmod C = c2 := by rw [tmod_turn (by omega), ← hc2]; unfold rotI; rw [if_pos hc]
              have hC0 : C ≠ 0 := by omega
              clear hc2
              go_wp2_with fail
              go_region
              have hr3 := HR2.out.putC hq2 HG2.out c2
              have hI3 : (wz.setCell ⟨gx, q * 4 + 1, none⟩ (.int .i64 c2)).drew.heap[Bi]? = _ := (Below.heap_setCell wz ⟨gx, q * 4 + 1, none⟩ (.int .i64 c2) _ (by show Bi ≠ gx; omega)).trans HI2.out
              have hX3 : (wz.setCell ⟨gx, q * 4 + 1, none⟩ (.int .i64 c2)).drew.heap[Bx]? = _ := (Below.heap_setCell wz ⟨gx, q * 4 + 1, none⟩ (.int .i64 c2) _ (by show Bx ≠ gx; omega)).trans HX2.out
              have hB3 : Below w.heap.size w (wz.setCell ⟨gx, q * 4 + 1, none⟩ (.int .i64 c2)).drew := (HB2.out.setCell (by simp; omega) _).drew
              replace hr3 := hr3.of_block (W' := (wz.setCell ⟨gx, q * 4 + 1, none⟩ (.int .i64 c2)).drew) rfl
              simp only [List.set_set] at hr3
              rw [← HRA.out, HST.out] at hr3
              generalize (wz.setCell ⟨gx, q * 4 + 1, none⟩ (.int .i64 c2)).drew = wy at hr3 hI3 hX3 hB3 ⊢
              have HR3 := Lib.hid hr3
              have HI3 := Lib.hid hI3
              have HX3 := Lib.hid hX3
              have HB3 := Lib.hid hB3
              clear hr3 hI3 hX3 hB3 HR2 HI2 HX2 HB2 z1 f1 y2 hdc hm hc
              go_wp2_with fail
              go_roundw
              case rel => exact ⟨q + 1, by omega, by go_num, HR3.out, HI3.out, HX3.out, HB3.out⟩
              case measure => simp [intOf]; omega
            · have hdc : decide (0 ≤ a.c) = false := by simpa using hc
              have ha3 : c2 = a.c := by rw [← hc2]; unfold rotI; rw [if_neg hc]
              have hr3 : AngRow wz gx (rotK T C kk jj l (q + 1)) := by rw [← HST.out, HRA.out, ha3]; exact HR2.out
              have HR3 := Lib.hid hr3
              clear hr3 hc2 ha3 hc
              go_wp2_with fail
              go_roundw
              case rel => exact ⟨q + 1, by omega, by go_num, HR3.out, HI2.out, HX2.out, HB2.out⟩
              case measure => simp [intOf]; omega
          · have hdt : decide (0 ≤ a.t) = false := by simpa using ht
            have ha2 : t2 = a.t := by rw [← ht2]; unfold rotI; rw [if_neg ht]
            have hr2 : AngRow wr gx ((rotK T C kk jj l q).set q ⟨t2, a.c, a.r, a.g⟩) := by
              rw [ha2, show (⟨a.t, a.c, a.r, a.g⟩ : Ang) = (rotK T C kk jj l q)[q]'hqk by rw [HAT.out], List.set_getElem_self]
              exact HROW.out
            have HR2 := Lib.hid hr2
            have HI2 := HI
            have HX2 := HX
            have HB2 := HBe
            clear hr2 ht2 ha2 z1 HROW
            have hq2 : q < ((rotK T C kk jj l q).set q ⟨t2, a.c, a.r, a.g⟩).length := by rw [List.length_set]; exact hqk
            have hg2 : ((rotK T C kk jj l q).set q ⟨t2, a.c, a.r, a.g⟩)[q]'hq2 = ⟨t2, a.c, a.r, a.g⟩ := List.getElem_set_self _
            have hcl := HR2.out.cells hq2
            rw [hg2] at hcl
            obtain ⟨_, z1, _, _⟩ := hcl
            have f1 := HR2.out.frozen (q * 4 + 1)
            have y2 : wr.cell? ⟨Bi, 2, none⟩ = some (.int .i64 C) := by simp [World.cell?, HI2.out]
            have HG2 := Lib.hid hg2
            clear hg2
            by_cases hc : 0 ≤ a.c
            · have hdc : decide (0 ≤ a.c) = true := by simpa using hc
              have hm : (a.c + jj).tmod C = c2 := by rw [tmod_turn (by omega), ← hc2]; unfold rotI; rw [if_pos hc]
              have hC0 : C ≠ 0 := by omega
              clear hc2
              go_wp2_with fail
              go_region
              have hr3 := HR2.out.putC hq2 HG2.out c2
              have hI3 : (wr.setCell ⟨gx, q * 4 + 1, none⟩ (.int .i64 c2)).drew.heap[Bi]? = _ := (Below.heap_setCell wr ⟨gx, q * 4 + 1, none⟩ (.int .i64 c2) _ (by show Bi ≠ gx; omega)).trans HI2.out
              have hX3 : (wr.setCell ⟨gx, q * 4 + 1, none⟩ (.int .i64 c2)).drew.heap[Bx]? = _ := (Below.heap_setCell wr ⟨gx, q * 4 + 1, none⟩ (.int .i64 c2) _ (by show Bx ≠ gx; omega)).trans HX2.out
              have hB3 : Below w.heap.size w (wr.setCell ⟨gx, q * 4 + 1, none⟩ (.int .i64 c2)).drew := (HB2.out.setCell (by simp; omega) _).drew
              replace hr3 := hr3.of_block (W' := (wr.setCell ⟨gx, q * 4 + 1, none⟩ (.int .i64 c2)).drew) rfl
              simp only [List.set_set] at hr3
              rw [← HRA.out, HST.out] at hr3
              generalize (wr.setCell ⟨gx, q * 4 + 1, none⟩ (.int .i64 c2)).drew = wy at hr3 hI3 hX3 hB3 ⊢
              have HR3 := Lib.hid hr3
              have HI3 := Lib.hid hI3
              have HX3 := Lib.hid hX3
              have HB3 := Lib.hid hB3
              clear hr3 hI3 hX3 hB3 HR2 HI2 HX2 HB2 z1 f1 y2 hdc hm hc
              go_wp2_with fail
              go_roundw
              case rel => exact ⟨q + 1, by omega, by go_num, HR3.out, HI3.out, HX3.out, HB3.out⟩
              case measure => simp [intOf]; omega
            · have hdc : decide (0 ≤ a.c) = false := by simpa using hc
              have ha3 : c2 = a.c := by rw [← hc2]; unfold rotI; rw [if_neg hc]
              have hr3 : AngRow wr gx (rotK T C kk jj l (q + 1)) := by rw [← HST.out, HRA.out, ha3]; exact HR2.out
              have HR3 := Lib.hid hr3
              clear hr3 hc2 ha3 hc
              go_wp2_with fail
              go_roundw
              case rel => exact ⟨q + 1, by omega, by go_num, HR3.out, HI2.out, HX2.out, HB2.out⟩
              case measure => simp [intOf]; omega
        · have hlt' : decide ((q : Int) < (l.length : Int)) = false := by simpa using hlt
          obtain rfl : q = l.length := by omega
          have hrow := HROW.out
          rw [rotK_all] at hrow
          clear y1 HROW
          have HB20 := HBe
          have NBi20 := HI
          have NBx20 := HX
          clear HI HX HBe x0
          have hok2 := rotL_ok (k := kk) (j := jj) HO.out k0 j0
          have hle := rot_least (k := kk) (j := jj) HO.out k0 j0
          have hlv := rot_leave (k := kk) (j := jj) HO.out k0 j0
          have hsu := rot_sure (k := kk) (j := jj) HO.out k0 j0
          have hbd := fun e al ah bl bh => rot_bounds (k := kk) (j := jj) (e := e) (al := al) (ah := ah) (bl := bl) (bh := bh) HO.out k0 j0
          have hrl := rotL_len (T := T) (C := C) (k := kk) (j := jj) (l := l)
          have has := fun e => rot_asked (k := kk) (j := jj) (e := e) HO.out k0 j0
          generalize rotL T C kk jj l = R at hrow hok2 hle hlv hsu hbd hrl has
          have HNR : Hid (∀ W, AngRow W gx R → Calls Try.prog 22 #[.agg #[.slice (some ⟨gx, 0, none⟩) l.length cpx, .int .i64 T, .int .i64 C]] W (fun e w' => ∃ A c, e = .returned (.agg #[.slice A l.length c, .int .i64 T, .int .i64 C]) ∧ AngsAt w' A R ∧ Below W.heap.size W w')) := by
            refine Lib.hid fun W h => ?_
            rw [← hrl]
            refine (net_any _ cpx T C R W h.angs (by omega)).mono ?_
            rintro e w' ⟨A', c, rfl, ha, _, hb⟩
            exact ⟨A', c, rfl, ha, hb⟩
          have FRx20 := Lib.hid hrow
          have HOK2 := Lib.hid hok2
          have HLE := Lib.hid hle
          have HLV := Lib.hid hlv
          have HSU := Lib.hid hsu
          have HBD := Lib.hid hbd
          have HRL := Lib.hid hrl
          have HAS := Lib.hid has
          clear hrow hok2 hle hlv hsu hbd hrl has
          have cBi0_20 : wr.cell? ⟨Bi, 0, none⟩ = some (.slice (some ⟨b, o, none⟩) l.length cap) := by simp [World.cell?, NBi20.out]
          have cBi1_20 : wr.cell? ⟨Bi, 1, none⟩ = some (.int .i64 T) := by simp [World.cell?, NBi20.out]
          have cBi2_20 : wr.cell? ⟨Bi, 2, none⟩ = some (.int .i64 C) := by simp [World.cell?, NBi20.out]
          have cBx0_20 : wr.cell? ⟨Bx, 0, none⟩ = some (.slice (some ⟨gx, 0, none⟩) l.length cpx) := by simp [World.cell?, NBx20.out]
          have cBx1_20 : wr.cell? ⟨Bx, 1, none⟩ = some (.int .i64 T) := by simp [World.cell?, NBx20.out]
          have cBx2_20 : wr.cell? ⟨Bx, 2, none⟩ = some (.int .i64 C) := by simp [World.cell?, NBx20.out]
          go_wp2_with fail
          generalize hE : er % 41 = e
          have e0 : 0 ≤ e := by omega
          have e1 : e ≤ 40 := by omega
          clear he0 he1 hb0 hb1 hE
          refine (net_any _ cap T C l _ (HA.out.keep HB20.out (Nat.le_refl _)) (by omega)).mono ?_
          rintro e w21 ⟨Aq1, cq1, rfl, hq, hqn, hb⟩
          have HB21 := Lib.hid ((HB20.out).trans (hb.mono (HB20.out).size))
          have NBi21 := Lib.hid ((hb.block Bi (Array.getElem?_eq_some_iff.1 NBi20.out).1).trans NBi20.out)
          have NBx21 := Lib.hid ((hb.block Bx (Array.getElem?_eq_some_iff.1 NBx20.out).1).trans NBx20.out)
          have FRx21 := Lib.hid ((FRx20.out).keep hb (Nat.le_refl _))
          have FQ21 := Lib.hid hq
          clear HB20 NBi20 NBx20 cBi0_20 cBi1_20 cBi2_20 cBx0_20 cBx1_20 cBx2_20 FRx20 hq hb hqn
          have cBi0_21 : w21.cell? ⟨Bi, 0, none⟩ = some (.slice (some ⟨b, o, none⟩) l.length cap) := by simp [World.cell?, NBi21.out]
          have cBi1_21 : w21.cell? ⟨Bi, 1, none⟩ = some (.int .i64 T) := by simp [World.cell?, NBi21.out]
          have cBi2_21 : w21.cell? ⟨Bi, 2, none⟩ = some (.int .i64 C) := by simp [World.cell?, NBi21.out]
          have cBx0_21 : w21.cell? ⟨Bx, 0, none⟩ = some (.slice (some ⟨gx, 0, none⟩) l.length cpx) := by simp [World.cell?, NBx21.out]
          have cBx1_21 : w21.cell? ⟨Bx, 1, none⟩ = some (.int .i64 T) := by simp [World.cell?, NBx21.out]
          have cBx2_21 : w21.cell? ⟨Bx, 2, none⟩ = some (.int .i64 C) := by simp [World.cell?, NBx21.out]
          go_wp2_with fail
          refine (least_any Aq1 l.length cq1 T C l _ (by omega) rfl FQ21.out).mono ?_
          rintro e w22 ⟨rfl, hb⟩
          have HB22 := Lib.hid ((HB21.out).trans (hb.mono (HB21.out).size))
          have NBi22 := Lib.hid ((hb.block Bi (Array.getElem?_eq_some_iff.1 NBi21.out).1).trans NBi21.out)
          have NBx22 := Lib.hid ((hb.block Bx (Array.getElem?_eq_some_iff.1 NBx21.out).1).trans NBx21.out)
          have FRx22 := Lib.hid ((FRx21.out).keep hb (Nat.le_refl _))
          have FQ22 := Lib.hid ((FQ21.out).keep hb (Nat.le_refl _))
          clear HB21 NBi21 NBx21 cBi0_21 cBi1_21 cBi2_21 cBx0_21 cBx1_21 cBx2_21 FRx21 FQ21 hb 
          have cBi0_22 : w22.cell? ⟨Bi, 0, none⟩ = some (.slice (some ⟨b, o, none⟩) l.length cap) := by simp [World.cell?, NBi22.out]
          have cBi1_22 : w22.cell? ⟨Bi, 1, none⟩ = some (.int .i64 T) := by simp [World.cell?, NBi22.out]
          have cBi2_22 : w22.cell? ⟨Bi, 2, none⟩ = some (.int .i64 C) := by simp [World.cell?, NBi22.out]
          have cBx0_22 : w22.cell? ⟨Bx, 0, none⟩ = some (.slice (some ⟨gx, 0, none⟩) l.length cpx) := by simp [World.cell?, NBx22.out]
          have cBx1_22 : w22.cell? ⟨Bx, 1, none⟩ = some (.int .i64 T) := by simp [World.cell?, NBx22.out]
          have cBx2_22 : w22.cell? ⟨Bx, 2, none⟩ = some (.int .i64 C) := by simp [World.cell?, NBx22.out]
          clear FQ22
          go_wp2_with fail
          refine (HNR.out _ FRx22.out).mono ?_
          rintro e w23 ⟨Aq2, cq2, rfl, hq, hb⟩
          have HB23 := Lib.hid ((HB22.out).trans (hb.mono (HB22.out).size))
          have NBi23 := Lib.hid ((hb.block Bi (Array.getElem?_eq_some_iff.1 NBi22.out).1).trans NBi22.out)
          have NBx23 := Lib.hid ((hb.block Bx (Array.getElem?_eq_some_iff.1 NBx22.out).1).trans NBx22.out)
          have FRx23 := Lib.hid ((FRx22.out).keep hb (Nat.le_refl _))
          have FQ23 := Lib.hid hq
          clear HB22 NBi22 NBx22 cBi0_22 cBi1_22 cBi2_22 cBx0_22 cBx1_22 cBx2_22 FRx22 hq hb 
          have cBi0_23 : w23.cell? ⟨Bi, 0, none⟩ = some (.slice (some ⟨b, o, none⟩) l.length cap) := by simp [World.cell?, NBi23.out]
          have cBi1_23 : w23.cell? ⟨Bi, 1, none⟩ = some (.int .i64 T) := by simp [World.cell?, NBi23.out]
          have cBi2_23 : w23.cell? ⟨Bi, 2, none⟩ = some (.int .i64 C) := by simp [World.cell?, NBi23.out]
          have cBx0_23 : w23.cell? ⟨Bx, 0, none⟩ = some (.slice (some ⟨gx, 0, none⟩) l.length cpx) := by simp [World.cell?, NBx23.out]
          have cBx1_23 : w23.cell? ⟨Bx, 1, none⟩ = some (.int .i64 T) := by simp [World.cell?, NBx23.out]
          have cBx2_23 : w23.cell? ⟨Bx, 2, none⟩ = some (.int .i64 C) := by simp [World.cell?, NBx23.out]
          go_wp2_with fail
          refine (least_any Aq2 l.length cq2 T C R _ (by omega) HRL.out FQ23.out).mono ?_
          rintro e w24 ⟨rfl, hb⟩; rw [HLE.out.1, HLE.out.2]
          have HB24 := Lib.hid ((HB23.out).trans (hb.mono (HB23.out).size))
          have NBi24 := Lib.hid ((hb.block Bi (Array.getElem?_eq_some_iff.1 NBi23.out).1).trans NBi23.out)
          have NBx24 := Lib.hid ((hb.block Bx (Array.getElem?_eq_some_iff.1 NBx23.out).1).trans NBx23.out)
          have FRx24 := Lib.hid ((FRx23.out).keep hb (Nat.le_refl _))
          have FQ24 := Lib.hid ((FQ23.out).keep hb (Nat.le_refl _))
          clear HB23 NBi23 NBx23 cBi0_23 cBi1_23 cBi2_23 cBx0_23 cBx1_23 cBx2_23 FRx23 FQ23 hb 
          have cBi0_24 : w24.cell? ⟨Bi, 0, none⟩ = some (.slice (some ⟨b, o, none⟩) l.length cap) := by simp [World.cell?, NBi24.out]
          have cBi1_24 : w24.cell? ⟨Bi, 1, none⟩ = some (.int .i64 T) := by simp [World.cell?, NBi24.out]
          have cBi2_24 : w24.cell? ⟨Bi, 2, none⟩ = some (.int .i64 C) := by simp [World.cell?, NBi24.out]
          have cBx0_24 : w24.cell? ⟨Bx, 0, none⟩ = some (.slice (some ⟨gx, 0, none⟩) l.length cpx) := by simp [World.cell?, NBx24.out]
          have cBx1_24 : w24.cell? ⟨Bx, 1, none⟩ = some (.int .i64 T) := by simp [World.cell?, NBx24.out]
          have cBx2_24 : w24.cell? ⟨Bx, 2, none⟩ = some (.int .i64 C) := by simp [World.cell?, NBx24.out]
          clear FQ24
          have a1 : askedL l T C e = 0 := by unfold askedL; rw [if_neg (by rw [faultL_zero.2 HO.out]; simp), if_pos ⟨e0, e1⟩]
          have hs1 := sureL_ans a1
          obtain ⟨S, hS⟩ : ∃ S, sureL l T C e = S := ⟨_, rfl⟩
          have HS := Lib.hid hS
          have HS2 := Lib.hid (show sureL R T C e = S by rw [HSU.out, hS])
          have H1 := Lib.hid hs1
          have A1 := Lib.hid a1
          clear hS hs1 a1
          obtain ⟨E, hEE⟩ : ∃ E, leastE l T C = E := ⟨_, rfl⟩
          obtain ⟨N, hNN⟩ : ∃ N, leastN l T C = N := ⟨_, rfl⟩
          rw [hEE, hNN]
          have HE := Lib.hid hEE
          clear hEE hNN
          go_wp2_with fail
          refine (net_any _ cap T C l _ (HA.out.keep HB24.out (Nat.le_refl _)) (by omega)).mono ?_
          rintro e w25 ⟨Aq3, cq3, rfl, hq, hqn, hb⟩
          have HB25 := Lib.hid ((HB24.out).trans (hb.mono (HB24.out).size))
          have NBi25 := Lib.hid ((hb.block Bi (Array.getElem?_eq_some_iff.1 NBi24.out).1).trans NBi24.out)
          have NBx25 := Lib.hid ((hb.block Bx (Array.getElem?_eq_some_iff.1 NBx24.out).1).trans NBx24.out)
          have FRx25 := Lib.hid ((FRx24.out).keep hb (Nat.le_refl _))
          have FQ25 := Lib.hid hq
          clear HB24 NBi24 NBx24 cBi0_24 cBi1_24 cBi2_24 cBx0_24 cBx1_24 cBx2_24 FRx24 hq hb hqn
          have cBi0_25 : w25.cell? ⟨Bi, 0, none⟩ = some (.slice (some ⟨b, o, none⟩) l.length cap) := by simp [World.cell?, NBi25.out]
          have cBi1_25 : w25.cell? ⟨Bi, 1, none⟩ = some (.int .i64 T) := by simp [World.cell?, NBi25.out]
          have cBi2_25 : w25.cell? ⟨Bi, 2, none⟩ = some (.int .i64 C) := by simp [World.cell?, NBi25.out]
          have cBx0_25 : w25.cell? ⟨Bx, 0, none⟩ = some (.slice (some ⟨gx, 0, none⟩) l.length cpx) := by simp [World.cell?, NBx25.out]
          have cBx1_25 : w25.cell? ⟨Bx, 1, none⟩ = some (.int .i64 T) := by simp [World.cell?, NBx25.out]
          have cBx2_25 : w25.cell? ⟨Bx, 2, none⟩ = some (.int .i64 C) := by simp [World.cell?, NBx25.out]
          go_wp2_with fail
          refine (bounds_gen (cap := cq3) (by omega) rfl FQ25.out).mono ?_
          rintro e w26 ⟨Ab3, m3, cb3, bl3, bh3, rfl, hrg, hbi, hb⟩; rw [HS.out]; have HBI3 := Lib.hid hbi
          have HB26 := Lib.hid ((HB25.out).trans (hb.mono (HB25.out).size))
          have NBi26 := Lib.hid ((hb.block Bi (Array.getElem?_eq_some_iff.1 NBi25.out).1).trans NBi25.out)
          have NBx26 := Lib.hid ((hb.block Bx (Array.getElem?_eq_some_iff.1 NBx25.out).1).trans NBx25.out)
          have FRx26 := Lib.hid ((FRx25.out).keep hb (Nat.le_refl _))
          have FQ26 := Lib.hid ((FQ25.out).keep hb (Nat.le_refl _))
          have FG326 := Lib.hid hrg
          clear HB25 NBi25 NBx25 cBi0_25 cBi1_25 cBi2_25 cBx0_25 cBx1_25 cBx2_25 FRx25 FQ25 hrg hb hbi
          have cBi0_26 : w26.cell? ⟨Bi, 0, none⟩ = some (.slice (some ⟨b, o, none⟩) l.length cap) := by simp [World.cell?, NBi26.out]
          have cBi1_26 : w26.cell? ⟨Bi, 1, none⟩ = some (.int .i64 T) := by simp [World.cell?, NBi26.out]
          have cBi2_26 : w26.cell? ⟨Bi, 2, none⟩ = some (.int .i64 C) := by simp [World.cell?, NBi26.out]
          have cBx0_26 : w26.cell? ⟨Bx, 0, none⟩ = some (.slice (some ⟨gx, 0, none⟩) l.length cpx) := by simp [World.cell?, NBx26.out]
          have cBx1_26 : w26.cell? ⟨Bx, 1, none⟩ = some (.int .i64 T) := by simp [World.cell?, NBx26.out]
          have cBx2_26 : w26.cell? ⟨Bx, 2, none⟩ = some (.int .i64 C) := by simp [World.cell?, NBx26.out]
          clear FQ26
          go_wp2_with fail
          refine (HNR.out _ FRx26.out).mono ?_
          rintro e w27 ⟨Aq4, cq4, rfl, hq, hb⟩
          have HB27 := Lib.hid ((HB26.out).trans (hb.mono (HB26.out).size))
          have NBi27 := Lib.hid ((hb.block Bi (Array.getElem?_eq_some_iff.1 NBi26.out).1).trans NBi26.out)
          have NBx27 := Lib.hid ((hb.block Bx (Array.getElem?_eq_some_iff.1 NBx26.out).1).trans NBx26.out)
          have FRx27 := Lib.hid ((FRx26.out).keep hb (Nat.le_refl _))
          have FG327 := Lib.hid ((FG326.out).keep hb (Nat.le_refl _))
          have FQ27 := Lib.hid hq
          clear HB26 NBi26 NBx26 cBi0_26 cBi1_26 cBi2_26 cBx0_26 cBx1_26 cBx2_26 FRx26 FG326 hq hb 
          have cBi0_27 : w27.cell? ⟨Bi, 0, none⟩ = some (.slice (some ⟨b, o, none⟩) l.length cap) := by simp [World.cell?, NBi27.out]
          have cBi1_27 : w27.cell? ⟨Bi, 1, none⟩ = some (.int .i64 T) := by simp [World.cell?, NBi27.out]
          have cBi2_27 : w27.cell? ⟨Bi, 2, none⟩ = some (.int .i64 C) := by simp [World.cell?, NBi27.out]
          have cBx0_27 : w27.cell? ⟨Bx, 0, none⟩ = some (.slice (some ⟨gx, 0, none⟩) l.length cpx) := by simp [World.cell?, NBx27.out]
          have cBx1_27 : w27.cell? ⟨Bx, 1, none⟩ = some (.int .i64 T) := by simp [World.cell?, NBx27.out]
          have cBx2_27 : w27.cell? ⟨Bx, 2, none⟩ = some (.int .i64 C) := by simp [World.cell?, NBx27.out]
          go_wp2_with fail
          refine (bounds_gen (cap := cq4) (by omega) HRL.out FQ27.out).mono ?_
          rintro e w28 ⟨Ab4, m4, cb4, bl4, bh4, rfl, hrg, hbi, hb⟩; rw [HS2.out]; have HBI4 := Lib.hid hbi
          have HB28 := Lib.hid ((HB27.out).trans (hb.mono (HB27.out).size))
          have NBi28 := Lib.hid ((hb.block Bi (Array.getElem?_eq_some_iff.1 NBi27.out).1).trans NBi27.out)
          have NBx28 := Lib.hid ((hb.block Bx (Array.getElem?_eq_some_iff.1 NBx27.out).1).trans NBx27.out)
          have FRx28 := Lib.hid ((FRx27.out).keep hb (Nat.le_refl _))
          have FG328 := Lib.hid ((FG327.out).keep hb (Nat.le_refl _))
          have FQ28 := Lib.hid ((FQ27.out).keep hb (Nat.le_refl _))
          have FG428 := Lib.hid hrg
          clear HB27 NBi27 NBx27 cBi0_27 cBi1_27 cBi2_27 cBx0_27 cBx1_27 cBx2_27 FRx27 FG327 FQ27 hrg hb hbi
          have cBi0_28 : w28.cell? ⟨Bi, 0, none⟩ = some (.slice (some ⟨b, o, none⟩) l.length cap) := by simp [World.cell?, NBi28.out]
          have cBi1_28 : w28.cell? ⟨Bi, 1, none⟩ = some (.int .i64 T) := by simp [World.cell?, NBi28.out]
          have cBi2_28 : w28.cell? ⟨Bi, 2, none⟩ = some (.int .i64 C) := by simp [World.cell?, NBi28.out]
          have cBx0_28 : w28.cell? ⟨Bx, 0, none⟩ = some (.slice (some ⟨gx, 0, none⟩) l.length cpx) := by simp [World.cell?, NBx28.out]
          have cBx1_28 : w28.cell? ⟨Bx, 1, none⟩ = some (.int .i64 T) := by simp [World.cell?, NBx28.out]
          have cBx2_28 : w28.cell? ⟨Bx, 2, none⟩ = some (.int .i64 C) := by simp [World.cell?, NBx28.out]
          clear FQ28
          go_wp2_with fail
          refine (net_any _ cap T C l _ (HA.out.keep HB28.out (Nat.le_refl _)) (by omega)).mono ?_
          rintro e w29 ⟨Aq5, cq5, rfl, hq, hqn, hb⟩
          have HB29 := Lib.hid ((HB28.out).trans (hb.mono (HB28.out).size))
          have NBi29 := Lib.hid ((hb.block Bi (Array.getElem?_eq_some_iff.1 NBi28.out).1).trans NBi28.out)
          have NBx29 := Lib.hid ((hb.block Bx (Array.getElem?_eq_some_iff.1 NBx28.out).1).trans NBx28.out)
          have FRx29 := Lib.hid ((FRx28.out).keep hb (Nat.le_refl _))
          have FG329 := Lib.hid ((FG328.out).keep hb (Nat.le_refl _))
          have FG429 := Lib.hid ((FG428.out).keep hb (Nat.le_refl _))
          have FQ29 := Lib.hid hq
          clear HB28 NBi28 NBx28 cBi0_28 cBi1_28 cBi2_28 cBx0_28 cBx1_28 cBx2_28 FRx28 FG328 FG428 hq hb hqn
          have cBi0_29 : w29.cell? ⟨Bi, 0, none⟩ = some (.slice (some ⟨b, o, none⟩) l.length cap) := by simp [World.cell?, NBi29.out]
          have cBi1_29 : w29.cell? ⟨Bi, 1, none⟩ = some (.int .i64 T) := by simp [World.cell?, NBi29.out]
          have cBi2_29 : w29.cell? ⟨Bi, 2, none⟩ = some (.int .i64 C) := by simp [World.cell?, NBi29.out]
          have cBx0_29 : w29.cell? ⟨Bx, 0, none⟩ = some (.slice (some ⟨gx, 0, none⟩) l.length cpx) := by simp [World.cell?, NBx29.out]
          have cBx1_29 : w29.cell? ⟨Bx, 1, none⟩ = some (.int .i64 T) := by simp [World.cell?, NBx29.out]
          have cBx2_29 : w29.cell? ⟨Bx, 2, none⟩ = some (.int .i64 C) := by simp [World.cell?, NBx29.out]
          go_wp2_with fail
          refine (leave_gen (cap := cq5) (by omega) rfl FQ29.out A1.out).mono ?_
          rintro e w30 ⟨Al5, cl5, L5, E5, rfl, hli, hlv, hb⟩; have HLV5 := Lib.hid hlv; obtain rfl := leave_least HO.out e0 e1 HE.out hlv
          have HB30 := Lib.hid ((HB29.out).trans (hb.mono (HB29.out).size))
          have NBi30 := Lib.hid ((hb.block Bi (Array.getElem?_eq_some_iff.1 NBi29.out).1).trans NBi29.out)
          have NBx30 := Lib.hid ((hb.block Bx (Array.getElem?_eq_some_iff.1 NBx29.out).1).trans NBx29.out)
          have FRx30 := Lib.hid ((FRx29.out).keep hb (Nat.le_refl _))
          have FG330 := Lib.hid ((FG329.out).keep hb (Nat.le_refl _))
          have FG430 := Lib.hid ((FG429.out).keep hb (Nat.le_refl _))
          have FQ30 := Lib.hid ((FQ29.out).keep hb (Nat.le_refl _))
          have FV530 := Lib.hid hli
          clear HB29 NBi29 NBx29 cBi0_29 cBi1_29 cBi2_29 cBx0_29 cBx1_29 cBx2_29 FRx29 FG329 FG429 FQ29 hli hb hlv
          have cBi0_30 : w30.cell? ⟨Bi, 0, none⟩ = some (.slice (some ⟨b, o, none⟩) l.length cap) := by simp [World.cell?, NBi30.out]
          have cBi1_30 : w30.cell? ⟨Bi, 1, none⟩ = some (.int .i64 T) := by simp [World.cell?, NBi30.out]
          have cBi2_30 : w30.cell? ⟨Bi, 2, none⟩ = some (.int .i64 C) := by simp [World.cell?, NBi30.out]
          have cBx0_30 : w30.cell? ⟨Bx, 0, none⟩ = some (.slice (some ⟨gx, 0, none⟩) l.length cpx) := by simp [World.cell?, NBx30.out]
          have cBx1_30 : w30.cell? ⟨Bx, 1, none⟩ = some (.int .i64 T) := by simp [World.cell?, NBx30.out]
          have cBx2_30 : w30.cell? ⟨Bx, 2, none⟩ = some (.int .i64 C) := by simp [World.cell?, NBx30.out]
          clear FQ30
          go_wp2_with fail
          refine (HNR.out _ FRx30.out).mono ?_
          rintro e w31 ⟨Aq6, cq6, rfl, hq, hb⟩
          have HB31 := Lib.hid ((HB30.out).trans (hb.mono (HB30.out).size))
          have NBi31 := Lib.hid ((hb.block Bi (Array.getElem?_eq_some_iff.1 NBi30.out).1).trans NBi30.out)
          have NBx31 := Lib.hid ((hb.block Bx (Array.getElem?_eq_some_iff.1 NBx30.out).1).trans NBx30.out)
          have FRx31 := Lib.hid ((FRx30.out).keep hb (Nat.le_refl _))
          have FG331 := Lib.hid ((FG330.out).keep hb (Nat.le_refl _))
          have FG431 := Lib.hid ((FG430.out).keep hb (Nat.le_refl _))
          have FV531 := Lib.hid ((FV530.out).keep hb (Nat.le_refl _))
          have FQ31 := Lib.hid hq
          clear HB30 NBi30 NBx30 cBi0_30 cBi1_30 cBi2_30 cBx0_30 cBx1_30 cBx2_30 FRx30 FG330 FG430 FV530 hq hb 
          have cBi0_31 : w31.cell? ⟨Bi, 0, none⟩ = some (.slice (some ⟨b, o, none⟩) l.length cap) := by simp [World.cell?, NBi31.out]
          have cBi1_31 : w31.cell? ⟨Bi, 1, none⟩ = some (.int .i64 T) := by simp [World.cell?, NBi31.out]
          have cBi2_31 : w31.cell? ⟨Bi, 2, none⟩ = some (.int .i64 C) := by simp [World.cell?, NBi31.out]
          have cBx0_31 : w31.cell? ⟨Bx, 0, none⟩ = some (.slice (some ⟨gx, 0, none⟩) l.length cpx) := by simp [World.cell?, NBx31.out]
          have cBx1_31 : w31.cell? ⟨Bx, 1, none⟩ = some (.int .i64 T) := by simp [World.cell?, NBx31.out]
          have cBx2_31 : w31.cell? ⟨Bx, 2, none⟩ = some (.int .i64 C) := by simp [World.cell?, NBx31.out]
          have hSS : S = 0 ∨ S = 9 := by
            have := H1.out
            rw [HS.out] at this
            rw [this]; split
            · exact .inl rfl
            · exact .inr rfl
          have hEE : E = 0 ∨ E = 9 := by
            rcases HLV5.out with ⟨_, _, h⟩ | ⟨_, h⟩
            · exact .inr h
            · exact .inl h
          obtain ⟨rfl, HEQ⟩ : m4 = m3 ∧ Hid (∀ i : Nat, i < m3 → bl4 i = bl3 i ∧ bh4 i = bh3 i) := by
            rcases HBI3.out with ⟨h, rfl⟩ | ⟨h, rfl, h1⟩
            · rcases HBI4.out with ⟨_, rfl⟩ | ⟨h', _⟩
              · exact ⟨rfl, Lib.hid fun i hi => by omega⟩
              · exact absurd (HS.out.trans (HS2.out.symm.trans h')) h
            · rcases HBI4.out with ⟨h', _⟩ | ⟨_, rfl, h2⟩
              · exact absurd (HS2.out.trans (HS.out.symm.trans h)) h'
              · exact ⟨HRL.out, Lib.hid fun i hi => HBD.out e _ _ _ _ h1 h2 i hi⟩
          have HM : Hid (m4 ≤ 15) := by
            rcases HBI4.out with ⟨_, rfl⟩ | ⟨_, rfl, _⟩
            · exact Lib.hid (by omega)
            · exact Lib.hid (by rw [HRL.out]; omega)
          have hLN : L5.length ≤ 1000000 := by
            rcases HLV5.out with ⟨_, rfl, _⟩ | ⟨h, _⟩
            · simp
            · rcases leaveO_spec l T C e with ⟨h2, _⟩ | ⟨L2, h2, hu, _⟩
              · rw [h] at h2; cases h2
              · obtain rfl : L5 = L2 := by rw [h] at h2; simpa using h2
                rcases hu.len with h | h
                · rw [h]; simp
                · omega
          have hnn : (N != N) = false := by simp
          have hmm : ((m4 : Int) != (m4 : Int)) = false := by simp
          clear HE H1 HS HS2 HBI3 HBI4
          rcases hSS with rfl | rfl
          · rcases hEE with rfl | rfl
            · go_wp2_with fail
              refine (leave_gen (cap := cq6) (by omega) HRL.out FQ31.out (HAS.out e A1.out)).mono ?_
              rintro e w32 ⟨Al6, cl6, L6, E6, rfl, hli, hlv, hb⟩; obtain ⟨rfl, rfl⟩ := LeaveIs.same (HLV.out e) HLV5.out hlv
              have HB32 := Lib.hid ((HB31.out).trans (hb.mono (HB31.out).size))
              have NBi32 := Lib.hid ((hb.block Bi (Array.getElem?_eq_some_iff.1 NBi31.out).1).trans NBi31.out)
              have NBx32 := Lib.hid ((hb.block Bx (Array.getElem?_eq_some_iff.1 NBx31.out).1).trans NBx31.out)
              have FRx32 := Lib.hid ((FRx31.out).keep hb (Nat.le_refl _))
              have FG332 := Lib.hid ((FG331.out).keep hb (Nat.le_refl _))
              have FG432 := Lib.hid ((FG431.out).keep hb (Nat.le_refl _))
              have FV532 := Lib.hid ((FV531.out).keep hb (Nat.le_refl _))
              have FQ32 := Lib.hid ((FQ31.out).keep hb (Nat.le_refl _))
              have FV632 := Lib.hid hli
              clear HB31 NBi31 NBx31 cBi0_31 cBi1_31 cBi2_31 cBx0_31 cBx1_31 cBx2_31 FRx31 FG331 FG431 FV531 FQ31 hli hb hlv
              have cBi0_32 : w32.cell? ⟨Bi, 0, none⟩ = some (.slice (some ⟨b, o, none⟩) l.length cap) := by simp [World.cell?, NBi32.out]
              have cBi1_32 : w32.cell? ⟨Bi, 1, none⟩ = some (.int .i64 T) := by simp [World.cell?, NBi32.out]
              have cBi2_32 : w32.cell? ⟨Bi, 2, none⟩ = some (.int .i64 C) := by simp [World.cell?, NBi32.out]
              have cBx0_32 : w32.cell? ⟨Bx, 0, none⟩ = some (.slice (some ⟨gx, 0, none⟩) l.length cpx) := by simp [World.cell?, NBx32.out]
              have cBx1_32 : w32.cell? ⟨Bx, 1, none⟩ = some (.int .i64 T) := by simp [World.cell?, NBx32.out]
              have cBx2_32 : w32.cell? ⟨Bx, 2, none⟩ = some (.int .i64 C) := by simp [World.cell?, NBx32.out]
              clear FQ32
              have hin := Lib.hid (ints_any _ _ L5 L5 w32 FV532.out FV632.out hLN)
              rw [decide_eq_true rfl] at hin
              go_wp2_with fail
              refine (hin.out).mono ?_
              rintro e w33 ⟨rfl, hb⟩
              have HB33 := Lib.hid ((HB32.out).trans (hb.mono (HB32.out).size))
              have NBi33 := Lib.hid ((hb.block Bi (Array.getElem?_eq_some_iff.1 NBi32.out).1).trans NBi32.out)
              have NBx33 := Lib.hid ((hb.block Bx (Array.getElem?_eq_some_iff.1 NBx32.out).1).trans NBx32.out)
              have FRx33 := Lib.hid ((FRx32.out).keep hb (Nat.le_refl _))
              have FG333 := Lib.hid ((FG332.out).keep hb (Nat.le_refl _))
              have FG433 := Lib.hid ((FG432.out).keep hb (Nat.le_refl _))
              have FV533 := Lib.hid ((FV532.out).keep hb (Nat.le_refl _))
              have FV633 := Lib.hid ((FV632.out).keep hb (Nat.le_refl _))
              clear HB32 NBi32 NBx32 cBi0_32 cBi1_32 cBi2_32 cBx0_32 cBx1_32 cBx2_32 FRx32 FG332 FG432 FV532 FV632 hb hin
              have cBi0_33 : w33.cell? ⟨Bi, 0, none⟩ = some (.slice (some ⟨b, o, none⟩) l.length cap) := by simp [World.cell?, NBi33.out]
              have cBi1_33 : w33.cell? ⟨Bi, 1, none⟩ = some (.int .i64 T) := by simp [World.cell?, NBi33.out]
              have cBi2_33 : w33.cell? ⟨Bi, 2, none⟩ = some (.int .i64 C) := by simp [World.cell?, NBi33.out]
              have cBx0_33 : w33.cell? ⟨Bx, 0, none⟩ = some (.slice (some ⟨gx, 0, none⟩) l.length cpx) := by simp [World.cell?, NBx33.out]
              have cBx1_33 : w33.cell? ⟨Bx, 1, none⟩ = some (.int .i64 T) := by simp [World.cell?, NBx33.out]
              have cBx2_33 : w33.cell? ⟨Bx, 2, none⟩ = some (.int .i64 C) := by simp [World.cell?, NBx33.out]
              clear FV533
              clear FV633
              go_wp2_with fail
              go_loopw [23] (OBRel m4 w33) (fun i _ => m4 - (intOf i).toNat)
              case atStart => exact ⟨0, by omega, rfl, Below.refl _ _⟩
              case round =>
                obtain ⟨q, hq, rfl, hbe⟩ := hrel
                have HBX := Lib.hid (HB33.out.trans (hbe.mono HB33.out.size))
                have g1 := FG333.out.keep hbe (Nat.le_refl _)
                have g2 := FG433.out.keep hbe (Nat.le_refl _)
                have HBE2 := Lib.hid hbe
                have hm15 := HM.out
                clear hbe cBi0_33 cBi1_33 cBi2_33 cBx0_33 cBx1_33 cBx2_33
                by_cases hlt : q < m4
                · have hlt' : decide ((q : Int) < (m4 : Int)) = true := by simpa using hlt
                  have i1 : (0 : Int) ≤ (q : Int) := by omega
                  have i2 : (q : Int) < (m4 : Int) := by omega
                  obtain ⟨b1, o1, rfl, g10, g11⟩ := g1.at2 hlt
                  obtain ⟨b2, o2, rfl, g20, g21⟩ := g2.at2 hlt
                  obtain ⟨w1q, w2q⟩ := HEQ.out q hlt
                  rw [w1q] at g20
                  rw [w2q] at g21
                  obtain ⟨p1, hp1⟩ : ∃ p, bl3 (q : Int) = p := ⟨_, rfl⟩
                  obtain ⟨q1, hq1⟩ : ∃ p, bh3 (q : Int) = p := ⟨_, rfl⟩
                  rw [hp1] at g10 g20
                  rw [hq1] at g11 g21
                  clear hp1 hq1 w1q w2q
                  go_wp2_with fail
                  go_quiet (fail)
                  go_wp2_with fail
                  go_roundw
                  case rel => exact ⟨q + 1, by omega, by go_num, HBE2.out.drewN _⟩
                  case measure => simp [intOf]; omega
                · have hlt' : decide ((q : Int) < (m4 : Int)) = false := by simpa using hlt
                  clear g1 g2
                  go_wp2_with fail
                  refine (awake_any _).mono ?_
                  rintro e' w8x ⟨rfl, hb⟩
                  have HB8 := Lib.hid (HBX.out.trans (hb.mono HBX.out.size))
                  clear hb
                  go_wp2_with fail
                  go_ret
                  exact ⟨rfl, HB8.out⟩
            · go_wp2_with fail
              refine (leave_gen (cap := cq6) (by omega) HRL.out FQ31.out (HAS.out e A1.out)).mono ?_
              rintro e w32 ⟨Al6, cl6, L6, E6, rfl, hli, hlv, hb⟩; obtain ⟨rfl, rfl⟩ := LeaveIs.same (HLV.out e) HLV5.out hlv
              have HB32 := Lib.hid ((HB31.out).trans (hb.mono (HB31.out).size))
              have NBi32 := Lib.hid ((hb.block Bi (Array.getElem?_eq_some_iff.1 NBi31.out).1).trans NBi31.out)
              have NBx32 := Lib.hid ((hb.block Bx (Array.getElem?_eq_some_iff.1 NBx31.out).1).trans NBx31.out)
              have FRx32 := Lib.hid ((FRx31.out).keep hb (Nat.le_refl _))
              have FG332 := Lib.hid ((FG331.out).keep hb (Nat.le_refl _))
              have FG432 := Lib.hid ((FG431.out).keep hb (Nat.le_refl _))
              have FV532 := Lib.hid ((FV531.out).keep hb (Nat.le_refl _))
              have FQ32 := Lib.hid ((FQ31.out).keep hb (Nat.le_refl _))
              have FV632 := Lib.hid hli
              clear HB31 NBi31 NBx31 cBi0_31 cBi1_31 cBi2_31 cBx0_31 cBx1_31 cBx2_31 FRx31 FG331 FG431 FV531 FQ31 hli hb hlv
              have cBi0_32 : w32.cell? ⟨Bi, 0, none⟩ = some (.slice (some ⟨b, o, none⟩) l.length cap) := by simp [World.cell?, NBi32.out]
              have cBi1_32 : w32.cell? ⟨Bi, 1, none⟩ = some (.int .i64 T) := by simp [World.cell?, NBi32.out]
              have cBi2_32 : w32.cell? ⟨Bi, 2, none⟩ = some (.int .i64 C) := by simp [World.cell?, NBi32.out]
              have cBx0_32 : w32.cell? ⟨Bx, 0, none⟩ = some (.slice (some ⟨gx, 0, none⟩) l.length cpx) := by simp [World.cell?, NBx32.out]
              have cBx1_32 : w32.cell? ⟨Bx, 1, none⟩ = some (.int .i64 T) := by simp [World.cell?, NBx32.out]
              have cBx2_32 : w32.cell? ⟨Bx, 2, none⟩ = some (.int .i64 C) := by simp [World.cell?, NBx32.out]
              clear FQ32
              have hin := Lib.hid (ints_any _ _ L5 L5 w32 FV532.out FV632.out hLN)
              rw [decide_eq_true rfl] at hin
              go_wp2_with fail
              refine (hin.out).mono ?_
              rintro e w33 ⟨rfl, hb⟩
              have HB33 := Lib.hid ((HB32.out).trans (hb.mono (HB32.out).size))
              have NBi33 := Lib.hid ((hb.block Bi (Array.getElem?_eq_some_iff.1 NBi32.out).1).trans NBi32.out)
              have NBx33 := Lib.hid ((hb.block Bx (Array.getElem?_eq_some_iff.1 NBx32.out).1).trans NBx32.out)
              have FRx33 := Lib.hid ((FRx32.out).keep hb (Nat.le_refl _))
              have FG333 := Lib.hid ((FG332.out).keep hb (Nat.le_refl _))
              have FG433 := Lib.hid ((FG432.out).keep hb (Nat.le_refl _))
              have FV533 := Lib.hid ((FV532.out).keep hb (Nat.le_refl _))
              have FV633 := Lib.hid ((FV632.out).keep hb (Nat.le_refl _))
              clear HB32 NBi32 NBx32 cBi0_32 cBi1_32 cBi2_32 cBx0_32 cBx1_32 cBx2_32 FRx32 FG332 FG432 FV532 FV632 hb hin
              have cBi0_33 : w33.cell? ⟨Bi, 0, none⟩ = some (.slice (some ⟨b, o, none⟩) l.length cap) := by simp [World.cell?, NBi33.out]
              have cBi1_33 : w33.cell? ⟨Bi, 1, none⟩ = some (.int .i64 T) := by simp [World.cell?, NBi33.out]
              have cBi2_33 : w33.cell? ⟨Bi, 2, none⟩ = some (.int .i64 C) := by simp [World.cell?, NBi33.out]
              have cBx0_33 : w33.cell? ⟨Bx, 0, none⟩ = some (.slice (some ⟨gx, 0, none⟩) l.length cpx) := by simp [World.cell?, NBx33.out]
              have cBx1_33 : w33.cell? ⟨Bx, 1, none⟩ = some (.int .i64 T) := by simp [World.cell?, NBx33.out]
              have cBx2_33 : w33.cell? ⟨Bx, 2, none⟩ = some (.int .i64 C) := by simp [World.cell?, NBx33.out]
              clear FV533
              clear FV633
              go_wp2_with fail
              go_loopw [23] (OBRel m4 w33) (fun i _ => m4 - (intOf i).toNat)
              case atStart => exact ⟨0, by omega, rfl, Below.refl _ _⟩
              case round =>
                obtain ⟨q, hq, rfl, hbe⟩ := hrel
                have HBX := Lib.hid (HB33.out.trans (hbe.mono HB33.out.size))
                have g1 := FG333.out.keep hbe (Nat.le_refl _)
                have g2 := FG433.out.keep hbe (Nat.le_refl _)
                have HBE2 := Lib.hid hbe
                have hm15 := HM.out
                clear hbe cBi0_33 cBi1_33 cBi2_33 cBx0_33 cBx1_33 cBx2_33
                by_cases hlt : q < m4
                · have hlt' : decide ((q : Int) < (m4 : Int)) = true := by simpa using hlt
                  have i1 : (0 : Int) ≤ (q : Int) := by omega
                  have i2 : (q : Int) < (m4 : Int) := by omega
                  obtain ⟨b1, o1, rfl, g10, g11⟩ := g1.at2 hlt
                  obtain ⟨b2, o2, rfl, g20, g21⟩ := g2.at2 hlt
                  obtain ⟨w1q, w2q⟩ := HEQ.out q hlt
                  rw [w1q] at g20
                  rw [w2q] at g21
                  obtain ⟨p1, hp1⟩ : ∃ p, bl3 (q : Int) = p := ⟨_, rfl⟩
                  obtain ⟨q1, hq1⟩ : ∃ p, bh3 (q : Int) = p := ⟨_, rfl⟩
                  rw [hp1] at g10 g20
                  rw [hq1] at g11 g21
                  clear hp1 hq1 w1q w2q
                  go_wp2_with fail
                  go_quiet (fail)
                  go_wp2_with fail
                  go_roundw
                  case rel => exact ⟨q + 1, by omega, by go_num, HBE2.out.drewN _⟩
                  case measure => simp [intOf]; omega
                · have hlt' : decide ((q : Int) < (m4 : Int)) = false := by simpa using hlt
                  clear g1 g2
                  go_wp2_with fail
                  refine (awake_any _).mono ?_
                  rintro e' w8x ⟨rfl, hb⟩
                  have HB8 := Lib.hid (HBX.out.trans (hb.mono HBX.out.size))
                  clear hb
                  go_wp2_with fail
                  go_ret
                  exact ⟨rfl, HB8.out⟩
          · rcases hEE with rfl | rfl
            · go_wp2_with fail
              refine (leave_gen (cap := cq6) (by omega) HRL.out FQ31.out (HAS.out e A1.out)).mono ?_
              rintro e w32 ⟨Al6, cl6, L6, E6, rfl, hli, hlv, hb⟩; obtain ⟨rfl, rfl⟩ := LeaveIs.same (HLV.out e) HLV5.out hlv
              have HB32 := Lib.hid ((HB31.out).trans (hb.mono (HB31.out).size))
              have NBi32 := Lib.hid ((hb.block Bi (Array.getElem?_eq_some_iff.1 NBi31.out).1).trans NBi31.out)
              have NBx32 := Lib.hid ((hb.block Bx (Array.getElem?_eq_some_iff.1 NBx31.out).1).trans NBx31.out)
              have FRx32 := Lib.hid ((FRx31.out).keep hb (Nat.le_refl _))
              have FG332 := Lib.hid ((FG331.out).keep hb (Nat.le_refl _))
              have FG432 := Lib.hid ((FG431.out).keep hb (Nat.le_refl _))
              have FV532 := Lib.hid ((FV531.out).keep hb (Nat.le_refl _))
              have FQ32 := Lib.hid ((FQ31.out).keep hb (Nat.le_refl _))
              have FV632 := Lib.hid hli
              clear HB31 NBi31 NBx31 cBi0_31 cBi1_31 cBi2_31 cBx0_31 cBx1_31 cBx2_31 FRx31 FG331 FG431 FV531 FQ31 hli hb hlv
              have cBi0_32 : w32.cell? ⟨Bi, 0, none⟩ = some (.slice (some ⟨b, o, none⟩) l.length cap) := by simp [World.cell?, NBi32.out]
              have cBi1_32 : w32.cell? ⟨Bi, 1, none⟩ = some (.int .i64 T) := by simp [World.cell?, NBi32.out]
              have cBi2_32 : w32.cell? ⟨Bi, 2, none⟩ = some (.int .i64 C) := by simp [World.cell?, NBi32.out]
              have cBx0_32 : w32.cell? ⟨Bx, 0, none⟩ = some (.slice (some ⟨gx, 0, none⟩) l.length cpx) := by simp [World.cell?, NBx32.out]
              have cBx1_32 : w32.cell? ⟨Bx, 1, none⟩ = some (.int .i64 T) := by simp [World.cell?, NBx32.out]
              have cBx2_32 : w32.cell? ⟨Bx, 2, none⟩ = some (.int .i64 C) := by simp [World.cell?, NBx32.out]
              clear FQ32
              have hin := Lib.hid (ints_any _ _ L5 L5 w32 FV532.out FV632.out hLN)
              rw [decide_eq_true rfl] at hin
              go_wp2_with fail
              refine (hin.out).mono ?_
              rintro e w33 ⟨rfl, hb⟩
              have HB33 := Lib.hid ((HB32.out).trans (hb.mono (HB32.out).size))
              have NBi33 := Lib.hid ((hb.block Bi (Array.getElem?_eq_some_iff.1 NBi32.out).1).trans NBi32.out)
              have NBx33 := Lib.hid ((hb.block Bx (Array.getElem?_eq_some_iff.1 NBx32.out).1).trans NBx32.out)
              have FRx33 := Lib.hid ((FRx32.out).keep hb (Nat.le_refl _))
              have FG333 := Lib.hid ((FG332.out).keep hb (Nat.le_refl _))
              have FG433 := Lib.hid ((FG432.out).keep hb (Nat.le_refl _))
              have FV533 := Lib.hid ((FV532.out).keep hb (Nat.le_refl _))
              have FV633 := Lib.hid ((FV632.out).keep hb (Nat.le_refl _))
              clear HB32 NBi32 NBx32 cBi0_32 cBi1_32 cBi2_32 cBx0_32 cBx1_32 cBx2_32 FRx32 FG332 FG432 FV532 FV632 hb hin
              have cBi0_33 : w33.cell? ⟨Bi, 0, none⟩ = some (.slice (some ⟨b, o, none⟩) l.length cap) := by simp [World.cell?, NBi33.out]
              have cBi1_33 : w33.cell? ⟨Bi, 1, none⟩ = some (.int .i64 T) := by simp [World.cell?, NBi33.out]
              have cBi2_33 : w33.cell? ⟨Bi, 2, none⟩ = some (.int .i64 C) := by simp [World.cell?, NBi33.out]
              have cBx0_33 : w33.cell? ⟨Bx, 0, none⟩ = some (.slice (some ⟨gx, 0, none⟩) l.length cpx) := by simp [World.cell?, NBx33.out]
              have cBx1_33 : w33.cell? ⟨Bx, 1, none⟩ = some (.int .i64 T) := by simp [World.cell?, NBx33.out]
              have cBx2_33 : w33.cell? ⟨Bx, 2, none⟩ = some (.int .i64 C) := by simp [World.cell?, NBx33.out]
              clear FV533
              clear FV633
              go_wp2_with fail
              go_loopw [23] (OBRel m4 w33) (fun i _ => m4 - (intOf i).toNat)
              case atStart => exact ⟨0, by omega, rfl, Below.refl _ _⟩
              case round =>
                obtain ⟨q, hq, rfl, hbe⟩ := hrel
                have HBX := Lib.hid (HB33.out.trans (hbe.mono HB33.out.size))
                have g1 := FG333.out.keep hbe (Nat.le_refl _)
                have g2 := FG433.out.keep hbe (Nat.le_refl _)
                have HBE2 := Lib.hid hbe
                have hm15 := HM.out
                clear hbe cBi0_33 cBi1_33 cBi2_33 cBx0_33 cBx1_33 cBx2_33
                by_cases hlt : q < m4
                · have hlt' : decide ((q : Int) < (m4 : Int)) = true := by simpa using hlt
                  have i1 : (0 : Int) ≤ (q : Int) := by omega
                  have i2 : (q : Int) < (m4 : Int) := by omega
                  obtain ⟨b1, o1, rfl, g10, g11⟩ := g1.at2 hlt
                  obtain ⟨b2, o2, rfl, g20, g21⟩ := g2.at2 hlt
                  obtain ⟨w1q, w2q⟩ := HEQ.out q hlt
                  rw [w1q] at g20
                  rw [w2q] at g21
                  obtain ⟨p1, hp1⟩ : ∃ p, bl3 (q : Int) = p := ⟨_, rfl⟩
                  obtain ⟨q1, hq1⟩ : ∃ p, bh3 (q : Int) = p := ⟨_, rfl⟩
                  rw [hp1] at g10 g20
                  rw [hq1] at g11 g21
                  clear hp1 hq1 w1q w2q
                  go_wp2_with fail
                  go_quiet (fail)
                  go_wp2_with fail
                  go_roundw
                  case rel => exact ⟨q + 1, by omega, by go_num, HBE2.out.drewN _⟩
                  case measure => simp [intOf]; omega
                · have hlt' : decide ((q : Int) < (m4 : Int)) = false := by simpa using hlt
                  clear g1 g2
                  go_wp2_with fail
                  refine (awake_any _).mono ?_
                  rintro e' w8x ⟨rfl, hb⟩
                  have HB8 := Lib.hid (HBX.out.trans (hb.mono HBX.out.size))
                  clear hb
                  go_wp2_with fail
                  go_ret
                  exact ⟨rfl, HB8.out⟩
            · go_wp2_with fail
              refine (leave_gen (cap := cq6) (by omega) HRL.out FQ31.out (HAS.out e A1.out)).mono ?_
              rintro e w32 ⟨Al6, cl6, L6, E6, rfl, hli, hlv, hb⟩; obtain ⟨rfl, rfl⟩ := LeaveIs.same (HLV.out e) HLV5.out hlv
              have HB32 := Lib.hid ((HB31.out).trans (hb.mono (HB31.out).size))
              have NBi32 := Lib.hid ((hb.block Bi (Array.getElem?_eq_some_iff.1 NBi31.out).1).trans NBi31.out)
              have NBx32 := Lib.hid ((hb.block Bx (Array.getElem?_eq_some_iff.1 NBx31.out).1).trans NBx31.out)
              have FRx32 := Lib.hid ((FRx31.out).keep hb (Nat.le_refl _))
              have FG332 := Lib.hid ((FG331.out).keep hb (Nat.le_refl _))
              have FG432 := Lib.hid ((FG431.out).keep hb (Nat.le_refl _))
              have FV532 := Lib.hid ((FV531.out).keep hb (Nat.le_refl _))
              have FQ32 := Lib.hid ((FQ31.out).keep hb (Nat.le_refl _))
              have FV632 := Lib.hid hli
              clear HB31 NBi31 NBx31 cBi0_31 cBi1_31 cBi2_31 cBx0_31 cBx1_31 cBx2_31 FRx31 FG331 FG431 FV531 FQ31 hli hb hlv
              have cBi0_32 : w32.cell? ⟨Bi, 0, none⟩ = some (.slice (some ⟨b, o, none⟩) l.length cap) := by simp [World.cell?, NBi32.out]
              have cBi1_32 : w32.cell? ⟨Bi, 1, none⟩ = some (.int .i64 T) := by simp [World.cell?, NBi32.out]
              have cBi2_32 : w32.cell? ⟨Bi, 2, none⟩ = some (.int .i64 C) := by simp [World.cell?, NBi32.out]
              have cBx0_32 : w32.cell? ⟨Bx, 0, none⟩ = some (.slice (some ⟨gx, 0, none⟩) l.length cpx) := by simp [World.cell?, NBx32.out]
              have cBx1_32 : w32.cell? ⟨Bx, 1, none⟩ = some (.int .i64 T) := by simp [World.cell?, NBx32.out]
              have cBx2_32 : w32.cell? ⟨Bx, 2, none⟩ = some (.int .i64 C) := by simp [World.cell?, NBx32.out]
              clear FQ32
              have hin := Lib.hid (ints_any _ _ L5 L5 w32 FV532.out FV632.out hLN)
              rw [decide_eq_true rfl] at hin
              go_wp2_with fail
              refine (hin.out).mono ?_
              rintro e w33 ⟨rfl, hb⟩
              have HB33 := Lib.hid ((HB32.out).trans (hb.mono (HB32.out).size))
              have NBi33 := Lib.hid ((hb.block Bi (Array.getElem?_eq_some_iff.1 NBi32.out).1).trans NBi32.out)
              have NBx33 := Lib.hid ((hb.block Bx (Array.getElem?_eq_some_iff.1 NBx32.out).1).trans NBx32.out)
              have FRx33 := Lib.hid ((FRx32.out).keep hb (Nat.le_refl _))
              have FG333 := Lib.hid ((FG332.out).keep hb (Nat.le_refl _))
              have FG433 := Lib.hid ((FG432.out).keep hb (Nat.le_refl _))
              have FV533 := Lib.hid ((FV532.out).keep hb (Nat.le_refl _))
              have FV633 := Lib.hid ((FV632.out).keep hb (Nat.le_refl _))
              clear HB32 NBi32 NBx32 cBi0_32 cBi1_32 cBi2_32 cBx0_32 cBx1_32 cBx2_32 FRx32 FG332 FG432 FV532 FV632 hb hin
              have cBi0_33 : w33.cell? ⟨Bi, 0, none⟩ = some (.slice (some ⟨b, o, none⟩) l.length cap) := by simp [World.cell?, NBi33.out]
              have cBi1_33 : w33.cell? ⟨Bi, 1, none⟩ = some (.int .i64 T) := by simp [World.cell?, NBi33.out]
              have cBi2_33 : w33.cell? ⟨Bi, 2, none⟩ = some (.int .i64 C) := by simp [World.cell?, NBi33.out]
              have cBx0_33 : w33.cell? ⟨Bx, 0, none⟩ = some (.slice (some ⟨gx, 0, none⟩) l.length cpx) := by simp [World.cell?, NBx33.out]
              have cBx1_33 : w33.cell? ⟨Bx, 1, none⟩ = some (.int .i64 T) := by simp [World.cell?, NBx33.out]
              have cBx2_33 : w33.cell? ⟨Bx, 2, none⟩ = some (.int .i64 C) := by simp [World.cell?, NBx33.out]
              clear FV533
              clear FV633
              go_wp2_with fail
              go_loopw [23] (OBRel m4 w33) (fun i _ => m4 - (intOf i).toNat)
              case atStart => exact ⟨0, by omega, rfl, Below.refl _ _⟩
              case round =>
                obtain ⟨q, hq, rfl, hbe⟩ := hrel
                have HBX := Lib.hid (HB33.out.trans (hbe.mono HB33.out.size))
                have g1 := FG333.out.keep hbe (Nat.le_refl _)
                have g2 := FG433.out.keep hbe (Nat.le_refl _)
                have HBE2 := Lib.hid hbe
                have hm15 := HM.out
                clear hbe cBi0_33 cBi1_33 cBi2_33 cBx0_33 cBx1_33 cBx2_33
                by_cases hlt : q < m4
                · have hlt' : decide ((q : Int) < (m4 : Int)) = true := by simpa using hlt
                  have i1 : (0 : Int) ≤ (q : Int) := by omega
                  have i2 : (q : Int) < (m4 : Int) := by omega
                  obtain ⟨b1, o1, rfl, g10, g11⟩ := g1.at2 hlt
                  obtain ⟨b2, o2, rfl, g20, g21⟩ := g2.at2 hlt
                  obtain ⟨w1q, w2q⟩ := HEQ.out q hlt
                  rw [w1q] at g20
                  rw [w2q] at g21
                  obtain ⟨p1, hp1⟩ : ∃ p, bl3 (q : Int) = p := ⟨_, rfl⟩
                  obtain ⟨q1, hq1⟩ : ∃ p, bh3 (q : Int) = p := ⟨_, rfl⟩
                  rw [hp1] at g10 g20
                  rw [hq1] at g11 g21
                  clear hp1 hq1 w1q w2q
                  go_wp2_with fail
                  go_quiet (fail)
                  go_wp2_with fail
                  go_roundw
                  case rel => exact ⟨q + 1, by omega, by go_num, HBE2.out.drewN _⟩
                  case measure => simp [intOf]; omega
                · have hlt' : decide ((q : Int) < (m4 : Int)) = false := by simpa using hlt
                  clear g1 g2
                  go_wp2_with fail
                  refine (awake_any _).mono ?_
                  rintro e' w8x ⟨rfl, hb⟩
                  have HB8 := Lib.hid (HBX.out.trans (hb.mono HBX.out.size))
                  clear hb
                  go_wp2_with fail
                  go_ret
                  exact ⟨rfl, HB8.out⟩
end Go.Proofs.Ytkloaeaepjoijaa

/-
  AngleAlone: the walk.
-/
import Derived.Test.YtkloaeaepjoijaaFreed
import Derived.Deep.AppendLies
set_option linter.all false
namespace Go.Proofs.Ytkloaeaepjoijaa
open Go.RowKit Go.WalkArith

theorem net_row {W : World} {g cp n : Nat} {T C : Int} {R : List Ang} (hR : R.length = n) (hn : n ≤ 15) (h : AngRow W g R) :
    Calls Try.prog 22 #[.agg #[.slice (some ⟨g, 0, none⟩) n cp, .int .i64 T, .int .i64 C]] W (fun e w' => ∃ A c, e = .returned (.agg #[.slice A n c, .int .i64 T, .int .i64 C]) ∧ AngsAt w' A R ∧ Below W.heap.size W w') := by
  subst hR
  refine (net_any _ cp T C R W h.angs (by omega)).mono ?_
  rintro e w' ⟨A', c, rfl, ha, _, hb⟩
  exact ⟨A', c, rfl, ha, hb⟩

theorem made_in2 (X : World) (y : Obj) : ((X.alloc y).alloc (.cells #[] 71)).ownsRow (X.heap.size + 1) 71 4 (.slice (some ⟨X.heap.size + 1, 0, none⟩) 0 0) 0 [] := by
  have h := made_in (X.alloc y)
  rw [show (X.alloc y).heap.size = X.heap.size + 1 by simp] at h
  exact h
theorem cell_alloc {W : World} {a : Addr} {u : Value} {x : Obj} (h : W.cell? a = some u) : (W.alloc x).cell? a = some u := (World.cell?_alloc_lt _ _ _ (World.block_lt_of_cell? _ _ h)).trans h
theorem RangesAt.at3 {W : World} {A : Option Addr} {n cap : Nat} {lo hi : Int → Int} (h : RangesAt W (.slice A n cap) n lo hi) {k : Nat} (hk : k < n) : ∃ b o, A = some ⟨b, o, none⟩ ∧ W.cell? ⟨b, o + k * 2, none⟩ = some (.int .i64 (lo k)) ∧ W.cell? ⟨b, o + k * 2 + 1, none⟩ = some (.int .i64 (hi k)) := by
  obtain ⟨A', c, he, h⟩ := h
  obtain ⟨rfl, rfl⟩ : A = A' ∧ cap = c := by simpa using he
  obtain ⟨b, o, rfl, hc⟩ := h.resolve_left (by omega)
  exact ⟨b, o, rfl, (hc k hk).1, (hc k hk).2⟩
/-- One more angle, that belongs to nothing. -/
def moreL (l : List Ang) (r g : Int) : List Ang := l ++ [⟨-1, -1, r, g⟩]
section
variable {l : List Ang} {T C r g : Int}
theorem moreL_len : (moreL l r g).length = l.length + 1 := by simp [moreL]
theorem moreL_at {i : Nat} (h : i < l.length) : (moreL l r g)[i]'(by rw [moreL_len]; omega) = l[i] := by
  unfold moreL; rw [List.getElem_append_left h]
theorem moreL_last : (moreL l r g)[l.length]'(by rw [moreL_len]; omega) = ⟨-1, -1, r, g⟩ := by
  unfold moreL; rw [List.getElem_append_right (Nat.le_refl _)]; simp
theorem moreL_ok (hok : NetOk l T C) (hn : l.length ≤ 11) (r0 : 0 ≤ r) (r1 : r ≤ 40) (g0 : 1 ≤ g) (g1 : g ≤ 3) : NetOk (moreL l r g) T C := by
  refine ⟨by rw [moreL_len]; omega, by rw [moreL_len]; omega, hok.t0, hok.t1, hok.c0, hok.c1, fun a ha => ?_⟩
  unfold moreL at ha
  rcases List.mem_append.1 ha with h | h
  · exact hok.ang a h
  · have : a = ⟨-1, -1, r, g⟩ := by simpa using h
    subst this
    have := hok.t0; have := hok.c0
    simp only; omega
theorem moreL_can (lo hi : Int → Int) : canB (moreL l r g) T C lo hi = canB l T C lo hi := by
  have hf : ∀ i : Nat, i < l.length → frL (moreL l r g) i = frL l i := fun i hi => by rw [frL_at hi, frL_at (by rw [moreL_len]; omega), moreL_at hi]
  have ht : ∀ i : Nat, i < l.length → toL (moreL l r g) i = toL l i := fun i hi => by rw [toL_at hi, toL_at (by rw [moreL_len]; omega), moreL_at hi]
  have hf2 : frL (moreL l r g) l.length = 10 := by rw [frL_at (by rw [moreL_len]; omega), moreL_last]; rfl
  have ht2 : toL (moreL l r g) l.length = 10 := by rw [toL_at (by rw [moreL_len]; omega), moreL_last]; rfl
  have hl : ∀ m : Int → Bool, m 10 = false → lowM (l.length + 1) (frL (moreL l r g)) (toL (moreL l r g)) lo hi m = lowM l.length (frL l) (toL l) lo hi m := fun m hm => by
    unfold lowM
    simp only [sumR]
    rw [hf2, ht2, hm, sumR_congr (fun i hi => by rw [hf i hi, ht i hi])]
    simp
  have hh : ∀ m : Int → Bool, m 10 = false → highM (l.length + 1) (frL (moreL l r g)) (toL (moreL l r g)) lo hi m = highM l.length (frL l) (toL l) lo hi m := fun m hm => by
    unfold highM
    simp only [sumR]
    rw [hf2, ht2, hm, sumR_congr (fun i hi => by rw [hf i hi, ht i hi])]
    simp
  unfold canB denyB
  simp only [moreL_len, hl _ (mOf_10 _ _), hh _ (mOf_10 _ _)]
theorem moreL_room (e : Int) (out : List Int) {i : Nat} (h : i < l.length) : roomLo (moreL l r g) e out i = roomLo l e out i ∧ roomHi (moreL l r g) e out i = roomHi l e out i := by
  rw [roomLo_at h, roomLo_at (by rw [moreL_len]; omega), roomHi_at h, roomHi_at (by rw [moreL_len]; omega), moreL_at h]
  exact ⟨rfl, rfl⟩
theorem moreL_lastroom (e : Int) (out : List Int) : roomLo (moreL l r g) e out l.length = (if out.contains (l.length : Int) then 0 else max 0 (r - e * g)) ∧ roomHi (moreL l r g) e out l.length = (if out.contains (l.length : Int) then 40 else min 40 (r + e * g)) := by
  rw [roomLo_at (by rw [moreL_len]; omega), roomHi_at (by rw [moreL_len]; omega), moreL_last]
  exact ⟨rfl, rfl⟩
theorem moreL_canE (e : Int) : canE (moreL l r g) T C e [] = canE l T C e [] := by
  unfold canE
  rw [moreL_can]
  exact canB_congr (fun i hi => (moreL_room e [] hi).1) (fun i hi => (moreL_room e [] hi).2)
theorem more_least (hok : NetOk l T C) (hok2 : NetOk (moreL l r g) T C) : leastN (moreL l r g) T C = leastN l T C ∧ leastE (moreL l r g) T C = leastE l T C := by
  have e : leastO (moreL l r g) T C = leastO l T C := by
    unfold leastO; congr 1; funext e; exact moreL_canE _
  unfold leastN leastE
  rw [faultL_zero.2 hok, faultL_zero.2 hok2, e]
  exact ⟨rfl, rfl⟩
theorem more_point (e : Int) {out : List Int} (hc : canE l T C e [] = true) (ho : out = [] ∨ out = [(l.length : Int)]) (x : Int) : pointB (moreL l r g) T C (roomLo (moreL l r g) e out) (roomHi (moreL l r g) e out) l.length x = true := by
  unfold pointB
  rw [moreL_can]
  have hno : ∀ i : Nat, i < l.length → out.contains (i : Int) = false := fun i hi => by
    rcases ho with rfl | rfl
    · rfl
    · simp; omega
  have h1 : ∀ i : Nat, i < l.length → roomLo (moreL l r g) e out i = roomLo l e [] i ∧ roomHi (moreL l r g) e out i = roomHi l e [] i := fun i hi => by
    rw [(moreL_room e out hi).1, (moreL_room e out hi).2, roomLo_at hi, roomLo_at hi, roomHi_at hi, roomHi_at hi, hno i hi]
    exact ⟨rfl, rfl⟩
  rw [← hc]
  unfold canE
  refine canB_congr (fun i hi => ?_) (fun i hi => ?_)
  · unfold updG; rw [if_neg (by omega)]; exact (h1 i hi).1
  · unfold updG; rw [if_neg (by omega)]; exact (h1 i hi).2
theorem more_ctl (e : Int) (hc : canE l T C e [] = true) : ctlB (moreL l r g) T C e l.length = false := by
  unfold ctlB
  rw [more_point e hc (.inr rfl), more_point e hc (.inr rfl)]
  rfl
theorem more_inside (e : Int) (hc : canE l T C e [] = true) : insideB [(l.length : Int)] (ctlL (moreL l r g) T C e (moreL l r g).length) = false := by
  refine insideB_no (k := 0) (by simp) ?_
  cases h : (ctlL (moreL l r g) T C e (moreL l r g).length).contains ([(l.length : Int)][0]) with
  | false => rfl
  | true =>
    rw [List.contains_iff_mem] at h
    simp only [ctlL, List.mem_map, List.mem_filter, List.mem_range, List.getElem_cons_zero] at h
    obtain ⟨i, ⟨_, h2⟩, h3⟩ := h
    obtain rfl : i = l.length := by omega
    rw [more_ctl e hc] at h2; cases h2
theorem more_bounds {e : Int} (hc : canE l T C e [] = true) {bl bh : Int → Int} (h : BoundsE (moreL l r g) T C e (moreL l r g).length bl bh) : bl l.length = max 0 (r - e * g) ∧ bh l.length = min 40 (r + e * g) := by
  have a1 := h.lo l.length (by rw [moreL_len]; omega)
  have a2 := h.hi l.length (by rw [moreL_len]; omega)
  have hr := moreL_lastroom (l := l) (r := r) (g := g) e []
  simp only [List.contains_nil, Bool.false_eq_true, if_false] at hr
  rw [hr.1, hr.2] at a1 a2
  have hp := fun x => more_point (g := g) (r := r) e hc (.inl rfl) x
  constructor
  · have h1 := a1.ge
    refine Int.le_antisymm (Int.not_lt.1 fun hlt => ?_) h1
    have := a1.no _ (Int.le_refl _) hlt
    rw [hp] at this; cases this
  · have h1 := a2.le
    refine Int.le_antisymm h1 (Int.not_lt.1 fun hlt => ?_)
    have := a2.no _ hlt (Int.le_refl _)
    rw [hp] at this; cases this
end

set_option maxRecDepth 100000 in
set_option maxHeartbeats 1000000 in
theorem alone_walk (A : Option Addr) (n cap : Nat) (T C : Int) (l : List Ang) (er rd wt : Int) (w : World)
    (hl : l.length = n) (hA : AngsAt w A l) (_ : NilOk A cap) (he0 : 0 ≤ er) (he1 : er ≤ 255) (hb0 : 0 ≤ rd) (hb1 : rd ≤ 255) (hc0 : 0 ≤ wt) (hc1 : wt ≤ 255) :
    Calls Try.prog 15 #[.agg #[.slice A n cap, .int .i64 T, .int .i64 C], .int .u8 er, .int .u8 rd, .int .u8 wt] w fun e w' => e = .returned (.bool true) ∧ Below w.heap.size w w' := by
  obtain ⟨i0, hi0, hz0, hz1, hz2⟩ := info_parts Try.info71
  subst hl
  have HA := Lib.hid hA
  clear hA
  have hB0 : Below w.heap.size w (w.alloc (.cells #[.slice A l.length cap, .int .i64 T, .int .i64 C] 24)) := (Below.refl _ _).alloc (Nat.le_refl _) _
  have hn0 : (w.alloc (.cells #[.slice A l.length cap, .int .i64 T, .int .i64 C] 24)).heap[w.heap.size]? = some (.cells #[.slice A l.length cap, .int .i64 T, .int .i64 C] 24 (0, 0)) := heap_new_at _ _ _ rfl
  have HB1 := Lib.hid hB0
  have NBi1 := Lib.hid hn0
  clear hB0 hn0
  go_enter Try.func15, Try.ntmps15
  go_wp2_with fail
  generalize (w.alloc (.cells #[.slice A l.length cap, .int .i64 T, .int .i64 C] 24)) = w1 at HB1 NBi1 ⊢
  obtain ⟨Bi, hBi⟩ : ∃ Bi, w.heap.size = Bi := ⟨_, rfl⟩
  have oBi : w.heap.size ≤ Bi := by omega
  rw [hBi] at NBi1 ⊢
  clear hBi
  have cBi0_1 : w1.cell? ⟨Bi, 0, none⟩ = some (.slice A l.length cap) := by simp [World.cell?, NBi1.out]
  have cBi1_1 : w1.cell? ⟨Bi, 1, none⟩ = some (.int .i64 T) := by simp [World.cell?, NBi1.out]
  have cBi2_1 : w1.cell? ⟨Bi, 2, none⟩ = some (.int .i64 C) := by simp [World.cell?, NBi1.out]
  have hth := Lib.hid (thin_any A l.length cap T C w1)
  by_cases h15 : l.length ≤ 15
  rotate_left
  · have hx15 : 15 < l.length := by omega
    rw [show decide (l.length ≤ 15) = false from (by simp; omega)] at hth
    go_wp2_with fail
    refine (hth.out).mono ?_
    rintro e w2 ⟨rfl, hb⟩
    have HB2 := Lib.hid ((HB1.out).trans (hb.mono (HB1.out).size))
    have NBi2 := Lib.hid ((hb.block Bi (Array.getElem?_eq_some_iff.1 NBi1.out).1).trans NBi1.out)
    clear HB1 NBi1 cBi0_1 cBi1_1 cBi2_1  hb hth
    have cBi0_2 : w2.cell? ⟨Bi, 0, none⟩ = some (.slice A l.length cap) := by simp [World.cell?, NBi2.out]
    have cBi1_2 : w2.cell? ⟨Bi, 1, none⟩ = some (.int .i64 T) := by simp [World.cell?, NBi2.out]
    have cBi2_2 : w2.cell? ⟨Bi, 2, none⟩ = some (.int .i64 C) := by simp [World.cell?, NBi2.out]
    go_wp2_with fail
    refine (awake_any _).mono ?_
    rintro e w3 ⟨rfl, hb⟩
    have HB3 := Lib.hid ((HB2.out).trans (hb.mono (HB2.out).size))
    have NBi3 := Lib.hid ((hb.block Bi (Array.getElem?_eq_some_iff.1 NBi2.out).1).trans NBi2.out)
    clear HB2 NBi2 cBi0_2 cBi1_2 cBi2_2  hb 
    have cBi0_3 : w3.cell? ⟨Bi, 0, none⟩ = some (.slice A l.length cap) := by simp [World.cell?, NBi3.out]
    have cBi1_3 : w3.cell? ⟨Bi, 1, none⟩ = some (.int .i64 T) := by simp [World.cell?, NBi3.out]
    have cBi2_3 : w3.cell? ⟨Bi, 2, none⟩ = some (.int .i64 C) := by simp [World.cell?, NBi3.out]
    go_wp2_with fail
    go_ret
    exact ⟨rfl, HB3.out⟩
  · rw [show decide (l.length ≤ 15) = true from (by simp; omega)] at hth
    go_wp2_with fail
    refine (hth.out).mono ?_
    rintro e w2 ⟨rfl, hb⟩
    have HB2 := Lib.hid ((HB1.out).trans (hb.mono (HB1.out).size))
    have NBi2 := Lib.hid ((hb.block Bi (Array.getElem?_eq_some_iff.1 NBi1.out).1).trans NBi1.out)
    clear HB1 NBi1 cBi0_1 cBi1_1 cBi2_1  hb hth
    have cBi0_2 : w2.cell? ⟨Bi, 0, none⟩ = some (.slice A l.length cap) := by simp [World.cell?, NBi2.out]
    have cBi1_2 : w2.cell? ⟨Bi, 1, none⟩ = some (.int .i64 T) := by simp [World.cell?, NBi2.out]
    have cBi2_2 : w2.cell? ⟨Bi, 2, none⟩ = some (.int .i64 C) := by simp [World.cell?, NBi2.out]
    have hfa := Lib.hid (lawFault_any A l.length cap T C l w2 (by omega) rfl (HA.out.keep HB2.out (Nat.le_refl _)))
    by_cases hf0 : faultL l T C = 0
    rotate_left
    · obtain ⟨F, hF⟩ : ∃ F, faultL l T C = F := ⟨_, rfl⟩
      rw [hF] at hfa hf0
      have hne : (F != 0) = true := by simpa using hf0
      clear hF hf0
      go_wp2_with fail
      refine (hfa.out).mono ?_
      rintro e w3 ⟨rfl, hb⟩
      have HB3 := Lib.hid ((HB2.out).trans (hb.mono (HB2.out).size))
      have NBi3 := Lib.hid ((hb.block Bi (Array.getElem?_eq_some_iff.1 NBi2.out).1).trans NBi2.out)
      clear HB2 NBi2 cBi0_2 cBi1_2 cBi2_2  hb hfa
      have cBi0_3 : w3.cell? ⟨Bi, 0, none⟩ = some (.slice A l.length cap) := by simp [World.cell?, NBi3.out]
      have cBi1_3 : w3.cell? ⟨Bi, 1, none⟩ = some (.int .i64 T) := by simp [World.cell?, NBi3.out]
      have cBi2_3 : w3.cell? ⟨Bi, 2, none⟩ = some (.int .i64 C) := by simp [World.cell?, NBi3.out]
      go_wp2_with fail
      refine (awake_any _).mono ?_
      rintro e w4 ⟨rfl, hb⟩
      have HB4 := Lib.hid ((HB3.out).trans (hb.mono (HB3.out).size))
      have NBi4 := Lib.hid ((hb.block Bi (Array.getElem?_eq_some_iff.1 NBi3.out).1).trans NBi3.out)
      clear HB3 NBi3 cBi0_3 cBi1_3 cBi2_3  hb 
      have cBi0_4 : w4.cell? ⟨Bi, 0, none⟩ = some (.slice A l.length cap) := by simp [World.cell?, NBi4.out]
      have cBi1_4 : w4.cell? ⟨Bi, 1, none⟩ = some (.int .i64 T) := by simp [World.cell?, NBi4.out]
      have cBi2_4 : w4.cell? ⟨Bi, 2, none⟩ = some (.int .i64 C) := by simp [World.cell?, NBi4.out]
      go_wp2_with fail
      go_ret
      exact ⟨rfl, HB4.out⟩
    · rw [hf0] at hfa
      have hok := faultL_zero.1 hf0
      obtain ⟨b, o, hAe⟩ := HA.out.some hok.pos
      subst hAe
      have HO := Lib.hid hok
      have hn12 := hok.len
      have hpos := hok.pos
      clear hok hf0
      go_wp2_with fail
      refine (hfa.out).mono ?_
      rintro e w3 ⟨rfl, hb⟩
      have HB3 := Lib.hid ((HB2.out).trans (hb.mono (HB2.out).size))
      have NBi3 := Lib.hid ((hb.block Bi (Array.getElem?_eq_some_iff.1 NBi2.out).1).trans NBi2.out)
      clear HB2 NBi2 cBi0_2 cBi1_2 cBi2_2  hb hfa
      have cBi0_3 : w3.cell? ⟨Bi, 0, none⟩ = some (.slice (some ⟨b, o, none⟩) l.length cap) := by simp [World.cell?, NBi3.out]
      have cBi1_3 : w3.cell? ⟨Bi, 1, none⟩ = some (.int .i64 T) := by simp [World.cell?, NBi3.out]
      have cBi2_3 : w3.cell? ⟨Bi, 2, none⟩ = some (.int .i64 C) := by simp [World.cell?, NBi3.out]
      by_cases h11 : 11 < l.length
      · have d11 : decide ((11 : Int) < (l.length : Int)) = true := decide_eq_true (by omega)
        have d11' : decide (11 < l.length) = true := decide_eq_true h11
        go_wp2_with fail
        refine (awake_any _).mono ?_
        rintro e w4 ⟨rfl, hb⟩
        have HB4 := Lib.hid ((HB3.out).trans (hb.mono (HB3.out).size))
        have NBi4 := Lib.hid ((hb.block Bi (Array.getElem?_eq_some_iff.1 NBi3.out).1).trans NBi3.out)
        clear HB3 NBi3 cBi0_3 cBi1_3 cBi2_3  hb 
        have cBi0_4 : w4.cell? ⟨Bi, 0, none⟩ = some (.slice (some ⟨b, o, none⟩) l.length cap) := by simp [World.cell?, NBi4.out]
        have cBi1_4 : w4.cell? ⟨Bi, 1, none⟩ = some (.int .i64 T) := by simp [World.cell?, NBi4.out]
        have cBi2_4 : w4.cell? ⟨Bi, 2, none⟩ = some (.int .i64 C) := by simp [World.cell?, NBi4.out]
        go_wp2_with fail
        go_ret
        exact ⟨rfl, HB4.out⟩
      · have d11 : decide ((11 : Int) < (l.length : Int)) = false := decide_eq_false (by omega)
        have d11' : decide (11 < l.length) = false := decide_eq_false h11
        have lBi := (Array.getElem?_eq_some_iff.1 NBi3.out).1
        have y0 : (w3.alloc (.cells #[.int .i64 (-1), .int .i64 (-1), .int .i64 (rd % 41), .int .i64 (1 + wt % 3)] 71)).cell? ⟨Bi, 0, none⟩ = some (.slice (some ⟨b, o, none⟩) l.length cap) := (World.cell?_alloc_lt _ _ _ lBi).trans cBi0_3
        have y1 : (w3.alloc (.cells #[.int .i64 (-1), .int .i64 (-1), .int .i64 (rd % 41), .int .i64 (1 + wt % 3)] 71)).cell? ⟨Bi, 1, none⟩ = some (.int .i64 T) := (World.cell?_alloc_lt _ _ _ lBi).trans cBi1_3
        have y2 : (w3.alloc (.cells #[.int .i64 (-1), .int .i64 (-1), .int .i64 (rd % 41), .int .i64 (1 + wt % 3)] 71)).cell? ⟨Bi, 2, none⟩ = some (.int .i64 C) := (World.cell?_alloc_lt _ _ _ lBi).trans cBi2_3
        go_wp2_with fail
        have hsz : ((w3.alloc (.cells #[.int .i64 (-1), .int .i64 (-1), .int .i64 (rd % 41), .int .i64 (1 + wt % 3)] 71)).alloc (.cells #[.slice (some ⟨b, o, none⟩) l.length cap, .int .i64 T, .int .i64 C] 24)).heap.size = w3.heap.size + 1 + 1 := by simp
        have m0 : ((w3.alloc (.cells #[.int .i64 (-1), .int .i64 (-1), .int .i64 (rd % 41), .int .i64 (1 + wt % 3)] 71)).alloc (.cells #[.slice (some ⟨b, o, none⟩) l.length cap, .int .i64 T, .int .i64 C] 24)).heap[Bi]? = _ := (copy_block lBi (.cells #[.int .i64 (-1), .int .i64 (-1), .int .i64 (rd % 41), .int .i64 (1 + wt % 3)] 71) (.cells #[.slice (some ⟨b, o, none⟩) l.length cap, .int .i64 T, .int .i64 C] 24)).trans NBi3.out
        have m1 : ((w3.alloc (.cells #[.int .i64 (-1), .int .i64 (-1), .int .i64 (rd % 41), .int .i64 (1 + wt % 3)] 71)).alloc (.cells #[.slice (some ⟨b, o, none⟩) l.length cap, .int .i64 T, .int .i64 C] 24)).heap[w3.heap.size]? = some (.cells #[.int .i64 (-1), .int .i64 (-1), .int .i64 (rd % 41), .int .i64 (1 + wt % 3)] 71 (0, 0)) := (Below.heap_alloc _ _ _ (by simp)).trans (heap_new_at _ _ _ rfl)
        have m2 : ((w3.alloc (.cells #[.int .i64 (-1), .int .i64 (-1), .int .i64 (rd % 41), .int .i64 (1 + wt % 3)] 71)).alloc (.cells #[.slice (some ⟨b, o, none⟩) l.length cap, .int .i64 T, .int .i64 C] 24)).heap[w3.heap.size + 1]? = some (.cells #[.slice (some ⟨b, o, none⟩) l.length cap, .int .i64 T, .int .i64 C] 24 (0, 0)) := heap_new_at _ _ _ (by simp)
        have hBX : Below w.heap.size w ((w3.alloc (.cells #[.int .i64 (-1), .int .i64 (-1), .int .i64 (rd % 41), .int .i64 (1 + wt % 3)] 71)).alloc (.cells #[.slice (some ⟨b, o, none⟩) l.length cap, .int .i64 T, .int .i64 C] 24)) := (HB3.out.alloc HB3.out.size _).alloc (by have := HB3.out.size; simp; omega) _
        generalize (w3.alloc (.cells #[.int .i64 (-1), .int .i64 (-1), .int .i64 (rd % 41), .int .i64 (1 + wt % 3)] 71)).alloc (.cells #[.slice (some ⟨b, o, none⟩) l.length cap, .int .i64 T, .int .i64 C] 24) = wX at hsz m0 m1 m2 hBX ⊢
        obtain ⟨Bx, hBx⟩ : ∃ B, w3.heap.size + 1 = B := ⟨_, rfl⟩
        rw [hBx] at hsz m2 ⊢
        obtain ⟨Ba, hBa⟩ : ∃ B, w3.heap.size = B := ⟨_, rfl⟩
        have oBx : Ba < Bx := by omega
        have oBa : Bi < Ba := by omega
        have oBw : w.heap.size ≤ Ba := by have := HB3.out.size; omega
        rw [hBa] at m1 ⊢
        obtain ⟨r, hr⟩ : ∃ r, rd % 41 = r := ⟨_, rfl⟩
        obtain ⟨gw, hgw⟩ : ∃ r, 1 + wt % 3 = r := ⟨_, rfl⟩
        obtain ⟨e, he⟩ : ∃ r, er % 41 = r := ⟨_, rfl⟩
        have r0 : 0 ≤ r := by omega
        have r1 : r ≤ 40 := by omega
        have g0 : 1 ≤ gw := by omega
        have gw3 : gw ≤ 3 := by omega
        have e0 : 0 ≤ e := by omega
        have e1 : e ≤ 40 := by omega
        simp only [hr, hgw, he] at m1 ⊢
        clear y0 y1 y2 lBi cBi0_3 cBi1_3 cBi2_3 NBi3 HB3 hBa hBx hr hgw he he0 he1 hb0 hb1 hc0 hc1
        have M0 := Lib.hid m0
        have M1 := Lib.hid m1
        have M2 := Lib.hid m2
        have HX := Lib.hid hBX
        have HSZ := Lib.hid hsz
        have x0 : wX.cell? ⟨Bi, 0, none⟩ = some (.slice (some ⟨b, o, none⟩) l.length cap) := by simp [World.cell?, m0]
        have a0 : wX.cell? ⟨Ba, 0, none⟩ = some (.int .i64 (-1)) := by simp [World.cell?, m1]
        have a1 : wX.cell? ⟨Ba, 1, none⟩ = some (.int .i64 (-1)) := by simp [World.cell?, m1]
        have a2 : wX.cell? ⟨Ba, 2, none⟩ = some (.int .i64 r) := by simp [World.cell?, m1]
        have a3 : wX.cell? ⟨Ba, 3, none⟩ = some (.int .i64 gw) := by simp [World.cell?, m1]
        clear m0 m1 m2 hBX hsz
        refine wp_region_held_drew (S := fun X => X.cell? ⟨Bi, 0, none⟩ = some (.slice (some ⟨b, o, none⟩) l.length cap) ∧ X.cell? ⟨Ba, 0, none⟩ = some (.int .i64 (-1)) ∧ X.cell? ⟨Ba, 1, none⟩ = some (.int .i64 (-1)) ∧ X.cell? ⟨Ba, 2, none⟩ = some (.int .i64 r) ∧ X.cell? ⟨Ba, 3, none⟩ = some (.int .i64 gw)) (by kernel_rfl) (⟨x0, a0, a1, a2, a3⟩) (fun hS0 => ?_)
        refine wpAnyH_take (i := 1) (oi := { dst := some 49, op := Op.fieldAddr 24 (Operand.tmp 4) 0, type := 0, pos := "outright.go:305", after := #[], guard := none }) (v := ?_) rfl (by kernel_rfl) (by kernel_rfl) (by kernel_rfl) (fun _ _ _ h => h) (Or.inl ⟨by rfl, ?_⟩) hS0 ?_
        rotate_left
        · intro X hX
          obtain ⟨x0, x1, x2, x3, x4⟩ := hX
          go_simp
          try with_reducible rfl
        simp only [Act.put, List.setIfInBounds_toArray, List.set_cons_zero, List.set_cons_succ, Array.toArray_toList]
        refine wpAnyH_take (i := 2) (oi := { dst := some 50, op := Op.load 22 (Operand.tmp 49), type := 22, pos := "outright.go:305", after := #[{ on := 1, ground := Ground.data }], guard := none }) (v := ?_) rfl (by kernel_rfl) (by kernel_rfl) (by kernel_rfl) (fun _ _ _ h => h) (Or.inl ⟨by rfl, ?_⟩) hS0 ?_
        rotate_left
        · intro X hX
          obtain ⟨x0, x1, x2, x3, x4⟩ := hX
          go_simp
          try with_reducible rfl
        simp only [Act.put, List.setIfInBounds_toArray, List.set_cons_zero, List.set_cons_succ, Array.toArray_toList]
        refine wpAnyH_take (i := 4) (oi := { dst := some 52, op := Op.load 71 (Operand.tmp 10), type := 71, pos := "outright.go:305", after := #[], guard := none }) (v := ?_) rfl (by kernel_rfl) (by kernel_rfl) (by kernel_rfl) (fun _ _ _ h => h) (Or.inl ⟨by rfl, ?_⟩) hS0 ?_
        rotate_left
        · intro X hX
          obtain ⟨x0, x1, x2, x3, x4⟩ := hX
          go_simp
          try with_reducible rfl
        simp only [Act.put, List.setIfInBounds_toArray, List.set_cons_zero, List.set_cons_succ, Array.toArray_toList]
        refine wpAnyH_ready (rs := [0, 5]) (by kernel_rfl) (by simp) (AllReadyH.cons (o := { dst := some 48, op := Op.buildSlice 22 0 #[], type := 22, pos := "outright.go:305", after := #[], guard := none }) rfl (fun K hK => ?_) (AllReadyH.cons (o := { dst := some 53, op := Op.buildSlice 22 1 #[(0, Operand.tmp 52)], type := 22, pos := "outright.go:305", after := #[{ on := 4, ground := Ground.data }], guard := none }) rfl (fun K hK => ?_) AllReadyH.nil))
        · go_simp
          refine hK.out _ _ (by obtain ⟨h0, h1, h2, h3, h4⟩ := hS0; exact ⟨cell_alloc h0, cell_alloc h1, cell_alloc h2, cell_alloc h3, cell_alloc h4⟩) (fun hS1 => ?_)
          clear hS0 hK K
          try simp only [Act.put, List.setIfInBounds_toArray, List.set_cons_zero, List.set_cons_succ, Array.toArray_toList]
          refine wpAnyH_ready (rs := [3, 5]) (by kernel_rfl) (by simp) (AllReadyH.cons (o := { dst := some 51, op := Op.call { callee := Callee.builtin Builtin.append, args := #[Operand.tmp 48, Operand.tmp 50], argTypes := #[22, 22] }, type := 22, pos := "outright.go:305", after := #[{ on := 0, ground := Ground.data }, { on := 2, ground := Ground.data }], guard := none }) rfl (fun K hK => ?_) (AllReadyH.cons (o := { dst := some 53, op := Op.buildSlice 22 1 #[(0, Operand.tmp 52)], type := 22, pos := "outright.go:305", after := #[{ on := 4, ground := Ground.data }], guard := none }) rfl (fun K hK => ?_) AllReadyH.nil))
          · refine step_append_lies _ (by rfl) (.tmp 48) (.tmp 50) 22 (by rfl) (wX.heap.size) 71 i0 (.agg #[.int .i64 0, .int .i64 0, .int .i64 0, .int .i64 0]) 4 32 Try.underlying22 hi0 hz0 hz1 hz2 rfl (by decide) _ 0 [] (by rfl) (made_in wX.drew) ⟨b, o, none⟩ l.length cap (flatA l) (by rfl) (flatA_length _) (flat_in (HA.out.keep HX.out (Nat.le_refl _)) ((Below.refl _ wX).drew) _) (flatA_one _) hpos (by unfold maxLen; omega) (by omega) (by simp; try omega) _ rfl ?_
            intro g1 p1 w1 hown1 hgrow1 hat1 hlt1
            simp only [Nat.zero_add, List.nil_append] at hown1
            have hk1 : ∀ j, j < wX.heap.size → w1.heap[j]? = wX.heap[j]? := fun j hj => by
              rw [hgrow1.block j (by simp; try omega) (by simp [Value.ownBlock]; omega)]
              first | exact Below.heap_alloc wX.drew _ _ hj | exact (Below.heap_alloc (wX.drew.alloc _) _ _ (by simp; omega)).trans (Below.heap_alloc wX.drew _ _ hj)
            have q1 : ∀ {a : Addr} {u : Value}, wX.cell? a = some u → w1.cell? a = some u := fun {a u} h => (cell_block (hk1 a.block (World.block_lt_of_cell? _ _ h))).trans h
            refine hK.out _ _ (⟨q1 x0, q1 a0, q1 a1, q1 a2, q1 a3⟩) (fun hS2 => ?_)
            clear hS1 hK K
            try simp only [Act.put, List.setIfInBounds_toArray, List.set_cons_zero, List.set_cons_succ, Array.toArray_toList]
            try simp only [Nat.zero_add]
            refine wpAnyH_ready (rs := [5]) (by kernel_rfl) (by simp) (AllReadyH.cons (o := { dst := some 53, op := Op.buildSlice 22 1 #[(0, Operand.tmp 52)], type := 22, pos := "outright.go:305", after := #[{ on := 4, ground := Ground.data }], guard := none }) rfl (fun K hK => ?_) AllReadyH.nil)
            go_simp
            refine hK.out _ _ (by obtain ⟨h0, h1, h2, h3, h4⟩ := hS2; exact ⟨cell_alloc h0, cell_alloc h1, cell_alloc h2, cell_alloc h3, cell_alloc h4⟩) (fun hS3 => ?_)
            clear hS2 hK K
            try simp only [Act.put, List.setIfInBounds_toArray, List.set_cons_zero, List.set_cons_succ, Array.toArray_toList]
            refine wpAnyH_ready (rs := [6]) (by kernel_rfl) (by simp) (AllReadyH.cons (o := { dst := some 54, op := Op.call { callee := Callee.builtin Builtin.append, args := #[Operand.tmp 51, Operand.tmp 53], argTypes := #[22, 22] }, type := 22, pos := "outright.go:305", after := #[{ on := 3, ground := Ground.data }, { on := 5, ground := Ground.data }, { on := 3, ground := Ground.chain }], guard := none }) rfl (fun K hK => ?_) AllReadyH.nil)
            refine step_append_lies _ (by rfl) (.tmp 51) (.tmp 53) 22 (by rfl) _ 71 i0 (.agg #[.int .i64 0, .int .i64 0, .int .i64 0, .int .i64 0]) 4 32 Try.underlying22 hi0 hz0 hz1 hz2 rfl (by decide) _ l.length (flatA l) (by rfl) (hown1.alloc _) ⟨w1.heap.size, 0, none⟩ 1 1 [.int .i64 (-1), .int .i64 (-1), .int .i64 r, .int .i64 gw] (by rfl) rfl (World.news_of_block (heap_new_at w1 _ _ rfl)) (by simp [Value.oneCell']) (by omega) (by unfold maxLen; omega) (by omega) (by have := hgrow1.size; simp at this ⊢; omega) _ rfl ?_
            intro g2 p2 w2 hown2 hgrow2 hat2 hlt2
            have hb1 := hown1.lt g1 rfl
            have hk2 : ∀ j, j < wX.heap.size → w2.heap[j]? = wX.heap[j]? := fun j hj => by
              rw [hgrow2.block j (by first | omega | (simp; omega)) (by simp [Value.ownBlock]; omega)]
              exact (Below.heap_alloc w1 _ _ (by have := hgrow1.size; simp at this; omega)).trans (hk1 j hj)
            have q2 : ∀ {a : Addr} {u : Value}, wX.cell? a = some u → w2.cell? a = some u := fun {a u} h => (cell_block (hk2 a.block (World.block_lt_of_cell? _ _ h))).trans h
            refine hK.out _ _ (⟨q2 x0, q2 a0, q2 a1, q2 a2, q2 a3⟩) (fun hS4 => ?_)
            clear hS3 hK K
            try simp only [Act.put, List.setIfInBounds_toArray, List.set_cons_zero, List.set_cons_succ, Array.toArray_toList]
            refine wpAnyH_take (i := 7) (oi := { dst := some 55, op := Op.fieldAddr 24 (Operand.tmp 11) 0, type := 0, pos := "outright.go:305", after := #[{ on := 0, ground := Ground.phase }, { on := 1, ground := Ground.phase }, { on := 2, ground := Ground.phase }, { on := 3, ground := Ground.phase }, { on := 4, ground := Ground.phase }, { on := 5, ground := Ground.phase }, { on := 6, ground := Ground.phase }], guard := none }) (v := ?_) rfl (by kernel_rfl) (by kernel_rfl) (by kernel_rfl) (fun _ _ _ h => h) (Or.inl ⟨by rfl, ?_⟩) hS4 ?_
            rotate_left
            · intro X hX
              obtain ⟨x0, x1, x2, x3, x4⟩ := hX
              go_simp
              try with_reducible rfl
            simp only [Act.put, List.setIfInBounds_toArray, List.set_cons_zero, List.set_cons_succ, Array.toArray_toList]
            have k0 : w2.frozen? ⟨Bx, 0, none⟩ = false := by simp only [World.frozen?, hk2 Bx (by rw [HSZ.out]; omega), M2.out]; rfl
            have k1 : w2.cell? ⟨Bx, 0, none⟩ = some (.slice (some ⟨b, o, none⟩) l.length cap) := by simp only [World.cell?, hk2 Bx (by rw [HSZ.out]; omega), M2.out]; rfl
            refine wpAnyH_ready (rs := [8]) (by kernel_rfl) (by simp) (AllReadyH.cons (o := { dst := none, op := Op.store 22 (Operand.tmp 55) (Operand.tmp 54), type := 0, pos := "outright.go:305", after := #[{ on := 7, ground := Ground.data }, { on := 6, ground := Ground.data }, { on := 6, ground := Ground.chain }, { on := 0, ground := Ground.phase }, { on := 1, ground := Ground.phase }, { on := 2, ground := Ground.phase }, { on := 3, ground := Ground.phase }, { on := 4, ground := Ground.phase }, { on := 5, ground := Ground.phase }, { on := 6, ground := Ground.phase }], guard := none }) rfl (fun K hK => ?_) AllReadyH.nil)
            go_simp
            have hown3 : w2.ownsRow (wX.heap.size) 71 4 (.slice (some ⟨g2, 0, none⟩) (moreL l r gw).length p2) (moreL l r gw).length (flatA (moreL l r gw)) := by
              rw [moreL_len]; unfold moreL; rw [flatA_snoc]; exact hown2
            obtain ⟨g3, c3, he3, hg3, hrow⟩ := AngRow.of_own (by rw [moreL_len]; omega) hown3
            obtain ⟨rfl, rfl⟩ : g2 = g3 ∧ p2 = c3 := by simpa using he3
            have hxs := HSZ.out
            have hB2 : Below w.heap.size w w2 := ⟨hgrow2.os.trans (hgrow1.os.trans HX.out.os), hgrow2.tape.trans (hgrow1.tape.trans HX.out.tape), hgrow2.output.trans (hgrow1.output.trans HX.out.output), by have h1 := HX.out.size; have h2 := hgrow2.size; have h3 := hgrow1.size; simp at h2 h3; omega, fun j hj => (hk2 j (Nat.lt_of_lt_of_le hj HX.out.size)).trans (HX.out.block j hj)⟩
            have hrow2 := hrow.of_block (Below.heap_setCell w2 ⟨Bx, 0, none⟩ (.slice (some ⟨g2, 0, none⟩) (l.length + 1) p2) _ (by show g2 ≠ Bx; omega))
            have hI2 := (Below.heap_setCell w2 ⟨Bx, 0, none⟩ (.slice (some ⟨g2, 0, none⟩) (l.length + 1) p2) Bi (by show Bi ≠ Bx; omega)).trans ((hk2 Bi (by omega)).trans M0.out)
            have hA2 := (Below.heap_setCell w2 ⟨Bx, 0, none⟩ (.slice (some ⟨g2, 0, none⟩) (l.length + 1) p2) Ba (by show Ba ≠ Bx; omega)).trans ((hk2 Ba (by omega)).trans M1.out)
            have hX2 := set_one ((hk2 Bx (by omega)).trans M2.out) (.slice (some ⟨g2, 0, none⟩) (l.length + 1) p2)
            have hB3 : Below w.heap.size w (w2.setCell ⟨Bx, 0, none⟩ (.slice (some ⟨g2, 0, none⟩) (l.length + 1) p2)) := hB2.setCell (by simp; omega) _
            refine hK.out _ _ (⟨by simp [World.cell?, hI2], by simp [World.cell?, hA2], by simp [World.cell?, hA2], by simp [World.cell?, hA2], by simp [World.cell?, hA2]⟩) (fun hS5 => ?_)
            clear hS4 hK K
            try simp only [Act.put, List.setIfInBounds_toArray, List.set_cons_zero, List.set_cons_succ, Array.toArray_toList]
            refine wpAnyH_done (by kernel_rfl) ?_ _
            clear hS5
            generalize w2.setCell ⟨Bx, 0, none⟩ (.slice (some ⟨g2, 0, none⟩) (l.length + 1) p2) = w30 at hrow2 hI2 hA2 hX2 hB3 ⊢
            have HB30 := Lib.hid hB3
            have NBi30 := Lib.hid hI2
            have NBa30 := Lib.hid hA2
            have NBx30 := Lib.hid hX2
            have FRx30 := Lib.hid hrow2
            clear hB3 hI2 hA2 hX2 hrow2 hB2 hrow hown3 hown2 hown1 hgrow1 hgrow2 hk1 hk2 k0 k1 hat1 hat2 hlt1 hlt2 hg3 he3 hb1 hxs x0 a0 a1 a2 a3 M0 M1 M2 HX HSZ
            have cBi0_30 : w30.cell? ⟨Bi, 0, none⟩ = some (.slice (some ⟨b, o, none⟩) l.length cap) := by simp [World.cell?, NBi30.out]
            have cBi1_30 : w30.cell? ⟨Bi, 1, none⟩ = some (.int .i64 T) := by simp [World.cell?, NBi30.out]
            have cBi2_30 : w30.cell? ⟨Bi, 2, none⟩ = some (.int .i64 C) := by simp [World.cell?, NBi30.out]
            have cBa0_30 : w30.cell? ⟨Ba, 0, none⟩ = some (.int .i64 (-1)) := by simp [World.cell?, NBa30.out]
            have cBa1_30 : w30.cell? ⟨Ba, 1, none⟩ = some (.int .i64 (-1)) := by simp [World.cell?, NBa30.out]
            have cBa2_30 : w30.cell? ⟨Ba, 2, none⟩ = some (.int .i64 r) := by simp [World.cell?, NBa30.out]
            have cBa3_30 : w30.cell? ⟨Ba, 3, none⟩ = some (.int .i64 gw) := by simp [World.cell?, NBa30.out]
            have cBx0_30 : w30.cell? ⟨Bx, 0, none⟩ = some (.slice (some ⟨g2, 0, none⟩) (l.length + 1) p2) := by simp [World.cell?, NBx30.out]
            have cBx1_30 : w30.cell? ⟨Bx, 1, none⟩ = some (.int .i64 T) := by simp [World.cell?, NBx30.out]
            have cBx2_30 : w30.cell? ⟨Bx, 2, none⟩ = some (.int .i64 C) := by simp [World.cell?, NBx30.out]
            have hok2 := moreL_ok (r := r) (g := gw) HO.out (by omega) r0 r1 g0 gw3
            have hle := more_least HO.out hok2
            have has : askedL (moreL l r gw) T C e = 0 := by unfold askedL; rw [if_neg (by rw [faultL_zero.2 hok2]; simp), if_pos ⟨e0, e1⟩]
            have hs1 := sureL_ans has
            rw [moreL_canE] at hs1
            obtain ⟨S, hS⟩ : ∃ S, sureL (moreL l r gw) T C e = S := ⟨_, rfl⟩
            have HS := Lib.hid hS
            rw [hS] at hs1
            have H1 := Lib.hid hs1
            have HLE := Lib.hid hle
            have HML := Lib.hid (moreL_len (l := l) (r := r) (g := gw))
            clear hok2 hle has hs1 hS
            go_wp2_with fail
            refine (net_any _ cap T C l _ (HA.out.keep HB30.out (Nat.le_refl _)) (by omega)).mono ?_
            rintro e w31 ⟨Aq1, cq1, rfl, hq, hqn, hb⟩
            have HB31 := Lib.hid ((HB30.out).trans (hb.mono (HB30.out).size))
            have NBi31 := Lib.hid ((hb.block Bi (Array.getElem?_eq_some_iff.1 NBi30.out).1).trans NBi30.out)
            have NBa31 := Lib.hid ((hb.block Ba (Array.getElem?_eq_some_iff.1 NBa30.out).1).trans NBa30.out)
            have NBx31 := Lib.hid ((hb.block Bx (Array.getElem?_eq_some_iff.1 NBx30.out).1).trans NBx30.out)
            have FRx31 := Lib.hid ((FRx30.out).keep hb (Nat.le_refl _))
            have FQ31 := Lib.hid hq
            clear HB30 NBi30 NBa30 NBx30 cBi0_30 cBi1_30 cBi2_30 cBa0_30 cBa1_30 cBa2_30 cBa3_30 cBx0_30 cBx1_30 cBx2_30 FRx30 hq hb hqn
            have cBi0_31 : w31.cell? ⟨Bi, 0, none⟩ = some (.slice (some ⟨b, o, none⟩) l.length cap) := by simp [World.cell?, NBi31.out]
            have cBi1_31 : w31.cell? ⟨Bi, 1, none⟩ = some (.int .i64 T) := by simp [World.cell?, NBi31.out]
            have cBi2_31 : w31.cell? ⟨Bi, 2, none⟩ = some (.int .i64 C) := by simp [World.cell?, NBi31.out]
            have cBa0_31 : w31.cell? ⟨Ba, 0, none⟩ = some (.int .i64 (-1)) := by simp [World.cell?, NBa31.out]
            have cBa1_31 : w31.cell? ⟨Ba, 1, none⟩ = some (.int .i64 (-1)) := by simp [World.cell?, NBa31.out]
            have cBa2_31 : w31.cell? ⟨Ba, 2, none⟩ = some (.int .i64 r) := by simp [World.cell?, NBa31.out]
            have cBa3_31 : w31.cell? ⟨Ba, 3, none⟩ = some (.int .i64 gw) := by simp [World.cell?, NBa31.out]
            have cBx0_31 : w31.cell? ⟨Bx, 0, none⟩ = some (.slice (some ⟨g2, 0, none⟩) (l.length + 1) p2) := by simp [World.cell?, NBx31.out]
            have cBx1_31 : w31.cell? ⟨Bx, 1, none⟩ = some (.int .i64 T) := by simp [World.cell?, NBx31.out]
            have cBx2_31 : w31.cell? ⟨Bx, 2, none⟩ = some (.int .i64 C) := by simp [World.cell?, NBx31.out]
            go_wp2_with fail
            refine (least_any Aq1 l.length cq1 T C l _ (by omega) rfl FQ31.out).mono ?_
            rintro e w32 ⟨rfl, hb⟩
            have HB32 := Lib.hid ((HB31.out).trans (hb.mono (HB31.out).size))
            have NBi32 := Lib.hid ((hb.block Bi (Array.getElem?_eq_some_iff.1 NBi31.out).1).trans NBi31.out)
            have NBa32 := Lib.hid ((hb.block Ba (Array.getElem?_eq_some_iff.1 NBa31.out).1).trans NBa31.out)
            have NBx32 := Lib.hid ((hb.block Bx (Array.getElem?_eq_some_iff.1 NBx31.out).1).trans NBx31.out)
            have FRx32 := Lib.hid ((FRx31.out).keep hb (Nat.le_refl _))
            have FQ32 := Lib.hid ((FQ31.out).keep hb (Nat.le_refl _))
            clear HB31 NBi31 NBa31 NBx31 cBi0_31 cBi1_31 cBi2_31 cBa0_31 cBa1_31 cBa2_31 cBa3_31 cBx0_31 cBx1_31 cBx2_31 FRx31 FQ31 hb 
            have cBi0_32 : w32.cell? ⟨Bi, 0, none⟩ = some (.slice (some ⟨b, o, none⟩) l.length cap) := by simp [World.cell?, NBi32.out]
            have cBi1_32 : w32.cell? ⟨Bi, 1, none⟩ = some (.int .i64 T) := by simp [World.cell?, NBi32.out]
            have cBi2_32 : w32.cell? ⟨Bi, 2, none⟩ = some (.int .i64 C) := by simp [World.cell?, NBi32.out]
            have cBa0_32 : w32.cell? ⟨Ba, 0, none⟩ = some (.int .i64 (-1)) := by simp [World.cell?, NBa32.out]
            have cBa1_32 : w32.cell? ⟨Ba, 1, none⟩ = some (.int .i64 (-1)) := by simp [World.cell?, NBa32.out]
            have cBa2_32 : w32.cell? ⟨Ba, 2, none⟩ = some (.int .i64 r) := by simp [World.cell?, NBa32.out]
            have cBa3_32 : w32.cell? ⟨Ba, 3, none⟩ = some (.int .i64 gw) := by simp [World.cell?, NBa32.out]
            have cBx0_32 : w32.cell? ⟨Bx, 0, none⟩ = some (.slice (some ⟨g2, 0, none⟩) (l.length + 1) p2) := by simp [World.cell?, NBx32.out]
            have cBx1_32 : w32.cell? ⟨Bx, 1, none⟩ = some (.int .i64 T) := by simp [World.cell?, NBx32.out]
            have cBx2_32 : w32.cell? ⟨Bx, 2, none⟩ = some (.int .i64 C) := by simp [World.cell?, NBx32.out]
            clear FQ32
            go_wp2_with fail
            refine (net_row moreL_len (by omega) FRx32.out).mono ?_
            rintro e w33 ⟨Aq2, cq2, rfl, hq, hb⟩
            have HB33 := Lib.hid ((HB32.out).trans (hb.mono (HB32.out).size))
            have NBi33 := Lib.hid ((hb.block Bi (Array.getElem?_eq_some_iff.1 NBi32.out).1).trans NBi32.out)
            have NBa33 := Lib.hid ((hb.block Ba (Array.getElem?_eq_some_iff.1 NBa32.out).1).trans NBa32.out)
            have NBx33 := Lib.hid ((hb.block Bx (Array.getElem?_eq_some_iff.1 NBx32.out).1).trans NBx32.out)
            have FRx33 := Lib.hid ((FRx32.out).keep hb (Nat.le_refl _))
            have FQ33 := Lib.hid hq
            clear HB32 NBi32 NBa32 NBx32 cBi0_32 cBi1_32 cBi2_32 cBa0_32 cBa1_32 cBa2_32 cBa3_32 cBx0_32 cBx1_32 cBx2_32 FRx32 hq hb 
            have cBi0_33 : w33.cell? ⟨Bi, 0, none⟩ = some (.slice (some ⟨b, o, none⟩) l.length cap) := by simp [World.cell?, NBi33.out]
            have cBi1_33 : w33.cell? ⟨Bi, 1, none⟩ = some (.int .i64 T) := by simp [World.cell?, NBi33.out]
            have cBi2_33 : w33.cell? ⟨Bi, 2, none⟩ = some (.int .i64 C) := by simp [World.cell?, NBi33.out]
            have cBa0_33 : w33.cell? ⟨Ba, 0, none⟩ = some (.int .i64 (-1)) := by simp [World.cell?, NBa33.out]
            have cBa1_33 : w33.cell? ⟨Ba, 1, none⟩ = some (.int .i64 (-1)) := by simp [World.cell?, NBa33.out]
            have cBa2_33 : w33.cell? ⟨Ba, 2, none⟩ = some (.int .i64 r) := by simp [World.cell?, NBa33.out]
            have cBa3_33 : w33.cell? ⟨Ba, 3, none⟩ = some (.int .i64 gw) := by simp [World.cell?, NBa33.out]
            have cBx0_33 : w33.cell? ⟨Bx, 0, none⟩ = some (.slice (some ⟨g2, 0, none⟩) (l.length + 1) p2) := by simp [World.cell?, NBx33.out]
            have cBx1_33 : w33.cell? ⟨Bx, 1, none⟩ = some (.int .i64 T) := by simp [World.cell?, NBx33.out]
            have cBx2_33 : w33.cell? ⟨Bx, 2, none⟩ = some (.int .i64 C) := by simp [World.cell?, NBx33.out]
            go_wp2_with fail
            refine (least_any Aq2 (l.length + 1) cq2 T C (moreL l r gw) _ (by omega) moreL_len FQ33.out).mono ?_
            rintro e w34 ⟨rfl, hb⟩; rw [HLE.out.1, HLE.out.2]
            have HB34 := Lib.hid ((HB33.out).trans (hb.mono (HB33.out).size))
            have NBi34 := Lib.hid ((hb.block Bi (Array.getElem?_eq_some_iff.1 NBi33.out).1).trans NBi33.out)
            have NBa34 := Lib.hid ((hb.block Ba (Array.getElem?_eq_some_iff.1 NBa33.out).1).trans NBa33.out)
            have NBx34 := Lib.hid ((hb.block Bx (Array.getElem?_eq_some_iff.1 NBx33.out).1).trans NBx33.out)
            have FRx34 := Lib.hid ((FRx33.out).keep hb (Nat.le_refl _))
            have FQ34 := Lib.hid ((FQ33.out).keep hb (Nat.le_refl _))
            clear HB33 NBi33 NBa33 NBx33 cBi0_33 cBi1_33 cBi2_33 cBa0_33 cBa1_33 cBa2_33 cBa3_33 cBx0_33 cBx1_33 cBx2_33 FRx33 FQ33 hb 
            have cBi0_34 : w34.cell? ⟨Bi, 0, none⟩ = some (.slice (some ⟨b, o, none⟩) l.length cap) := by simp [World.cell?, NBi34.out]
            have cBi1_34 : w34.cell? ⟨Bi, 1, none⟩ = some (.int .i64 T) := by simp [World.cell?, NBi34.out]
            have cBi2_34 : w34.cell? ⟨Bi, 2, none⟩ = some (.int .i64 C) := by simp [World.cell?, NBi34.out]
            have cBa0_34 : w34.cell? ⟨Ba, 0, none⟩ = some (.int .i64 (-1)) := by simp [World.cell?, NBa34.out]
            have cBa1_34 : w34.cell? ⟨Ba, 1, none⟩ = some (.int .i64 (-1)) := by simp [World.cell?, NBa34.out]
            have cBa2_34 : w34.cell? ⟨Ba, 2, none⟩ = some (.int .i64 r) := by simp [World.cell?, NBa34.out]
            have cBa3_34 : w34.cell? ⟨Ba, 3, none⟩ = some (.int .i64 gw) := by simp [World.cell?, NBa34.out]
            have cBx0_34 : w34.cell? ⟨Bx, 0, none⟩ = some (.slice (some ⟨g2, 0, none⟩) (l.length + 1) p2) := by simp [World.cell?, NBx34.out]
            have cBx1_34 : w34.cell? ⟨Bx, 1, none⟩ = some (.int .i64 T) := by simp [World.cell?, NBx34.out]
            have cBx2_34 : w34.cell? ⟨Bx, 2, none⟩ = some (.int .i64 C) := by simp [World.cell?, NBx34.out]
            clear FQ34
            generalize leastN l T C = N
            generalize leastE l T C = E
            have hnn : (N != N) = false := by simp
            have hee : (E != E) = false := by simp
            have hss : (S != S) = false := by simp
            go_wp2_with fail
            refine (net_row moreL_len (by omega) FRx34.out).mono ?_
            rintro e w35 ⟨Aq3, cq3, rfl, hq, hb⟩
            have HB35 := Lib.hid ((HB34.out).trans (hb.mono (HB34.out).size))
            have NBi35 := Lib.hid ((hb.block Bi (Array.getElem?_eq_some_iff.1 NBi34.out).1).trans NBi34.out)
            have NBa35 := Lib.hid ((hb.block Ba (Array.getElem?_eq_some_iff.1 NBa34.out).1).trans NBa34.out)
            have NBx35 := Lib.hid ((hb.block Bx (Array.getElem?_eq_some_iff.1 NBx34.out).1).trans NBx34.out)
            have FRx35 := Lib.hid ((FRx34.out).keep hb (Nat.le_refl _))
            have FQ35 := Lib.hid hq
            clear HB34 NBi34 NBa34 NBx34 cBi0_34 cBi1_34 cBi2_34 cBa0_34 cBa1_34 cBa2_34 cBa3_34 cBx0_34 cBx1_34 cBx2_34 FRx34 hq hb 
            have cBi0_35 : w35.cell? ⟨Bi, 0, none⟩ = some (.slice (some ⟨b, o, none⟩) l.length cap) := by simp [World.cell?, NBi35.out]
            have cBi1_35 : w35.cell? ⟨Bi, 1, none⟩ = some (.int .i64 T) := by simp [World.cell?, NBi35.out]
            have cBi2_35 : w35.cell? ⟨Bi, 2, none⟩ = some (.int .i64 C) := by simp [World.cell?, NBi35.out]
            have cBa0_35 : w35.cell? ⟨Ba, 0, none⟩ = some (.int .i64 (-1)) := by simp [World.cell?, NBa35.out]
            have cBa1_35 : w35.cell? ⟨Ba, 1, none⟩ = some (.int .i64 (-1)) := by simp [World.cell?, NBa35.out]
            have cBa2_35 : w35.cell? ⟨Ba, 2, none⟩ = some (.int .i64 r) := by simp [World.cell?, NBa35.out]
            have cBa3_35 : w35.cell? ⟨Ba, 3, none⟩ = some (.int .i64 gw) := by simp [World.cell?, NBa35.out]
            have cBx0_35 : w35.cell? ⟨Bx, 0, none⟩ = some (.slice (some ⟨g2, 0, none⟩) (l.length + 1) p2) := by simp [World.cell?, NBx35.out]
            have cBx1_35 : w35.cell? ⟨Bx, 1, none⟩ = some (.int .i64 T) := by simp [World.cell?, NBx35.out]
            have cBx2_35 : w35.cell? ⟨Bx, 2, none⟩ = some (.int .i64 C) := by simp [World.cell?, NBx35.out]
            go_wp2_with fail
            refine (bounds_gen (n := l.length + 1) (cap := cq3) (by omega) moreL_len FQ35.out).mono ?_
            rintro e w36 ⟨Ab, m, cb, bl, bh, rfl, hrg, hbi, hb⟩; rw [HS.out]; have HBI := Lib.hid hbi
            have HB36 := Lib.hid ((HB35.out).trans (hb.mono (HB35.out).size))
            have NBi36 := Lib.hid ((hb.block Bi (Array.getElem?_eq_some_iff.1 NBi35.out).1).trans NBi35.out)
            have NBa36 := Lib.hid ((hb.block Ba (Array.getElem?_eq_some_iff.1 NBa35.out).1).trans NBa35.out)
            have NBx36 := Lib.hid ((hb.block Bx (Array.getElem?_eq_some_iff.1 NBx35.out).1).trans NBx35.out)
            have FRx36 := Lib.hid ((FRx35.out).keep hb (Nat.le_refl _))
            have FQ36 := Lib.hid ((FQ35.out).keep hb (Nat.le_refl _))
            have FG36 := Lib.hid hrg
            clear HB35 NBi35 NBa35 NBx35 cBi0_35 cBi1_35 cBi2_35 cBa0_35 cBa1_35 cBa2_35 cBa3_35 cBx0_35 cBx1_35 cBx2_35 FRx35 FQ35 hrg hb hbi
            have cBi0_36 : w36.cell? ⟨Bi, 0, none⟩ = some (.slice (some ⟨b, o, none⟩) l.length cap) := by simp [World.cell?, NBi36.out]
            have cBi1_36 : w36.cell? ⟨Bi, 1, none⟩ = some (.int .i64 T) := by simp [World.cell?, NBi36.out]
            have cBi2_36 : w36.cell? ⟨Bi, 2, none⟩ = some (.int .i64 C) := by simp [World.cell?, NBi36.out]
            have cBa0_36 : w36.cell? ⟨Ba, 0, none⟩ = some (.int .i64 (-1)) := by simp [World.cell?, NBa36.out]
            have cBa1_36 : w36.cell? ⟨Ba, 1, none⟩ = some (.int .i64 (-1)) := by simp [World.cell?, NBa36.out]
            have cBa2_36 : w36.cell? ⟨Ba, 2, none⟩ = some (.int .i64 r) := by simp [World.cell?, NBa36.out]
            have cBa3_36 : w36.cell? ⟨Ba, 3, none⟩ = some (.int .i64 gw) := by simp [World.cell?, NBa36.out]
            have cBx0_36 : w36.cell? ⟨Bx, 0, none⟩ = some (.slice (some ⟨g2, 0, none⟩) (l.length + 1) p2) := by simp [World.cell?, NBx36.out]
            have cBx1_36 : w36.cell? ⟨Bx, 1, none⟩ = some (.int .i64 T) := by simp [World.cell?, NBx36.out]
            have cBx2_36 : w36.cell? ⟨Bx, 2, none⟩ = some (.int .i64 C) := by simp [World.cell?, NBx36.out]
            clear FQ36
            go_wp2_with fail
            refine (net_row moreL_len (by omega) FRx36.out).mono ?_
            rintro e w37 ⟨Aq4, cq4, rfl, hq, hb⟩
            have HB37 := Lib.hid ((HB36.out).trans (hb.mono (HB36.out).size))
            have NBi37 := Lib.hid ((hb.block Bi (Array.getElem?_eq_some_iff.1 NBi36.out).1).trans NBi36.out)
            have NBa37 := Lib.hid ((hb.block Ba (Array.getElem?_eq_some_iff.1 NBa36.out).1).trans NBa36.out)
            have NBx37 := Lib.hid ((hb.block Bx (Array.getElem?_eq_some_iff.1 NBx36.out).1).trans NBx36.out)
            have FRx37 := Lib.hid ((FRx36.out).keep hb (Nat.le_refl _))
            have FG37 := Lib.hid ((FG36.out).keep hb (Nat.le_refl _))
            have FQ37 := Lib.hid hq
            clear HB36 NBi36 NBa36 NBx36 cBi0_36 cBi1_36 cBi2_36 cBa0_36 cBa1_36 cBa2_36 cBa3_36 cBx0_36 cBx1_36 cBx2_36 FRx36 FG36 hq hb 
            have cBi0_37 : w37.cell? ⟨Bi, 0, none⟩ = some (.slice (some ⟨b, o, none⟩) l.length cap) := by simp [World.cell?, NBi37.out]
            have cBi1_37 : w37.cell? ⟨Bi, 1, none⟩ = some (.int .i64 T) := by simp [World.cell?, NBi37.out]
            have cBi2_37 : w37.cell? ⟨Bi, 2, none⟩ = some (.int .i64 C) := by simp [World.cell?, NBi37.out]
            have cBa0_37 : w37.cell? ⟨Ba, 0, none⟩ = some (.int .i64 (-1)) := by simp [World.cell?, NBa37.out]
            have cBa1_37 : w37.cell? ⟨Ba, 1, none⟩ = some (.int .i64 (-1)) := by simp [World.cell?, NBa37.out]
            have cBa2_37 : w37.cell? ⟨Ba, 2, none⟩ = some (.int .i64 r) := by simp [World.cell?, NBa37.out]
            have cBa3_37 : w37.cell? ⟨Ba, 3, none⟩ = some (.int .i64 gw) := by simp [World.cell?, NBa37.out]
            have cBx0_37 : w37.cell? ⟨Bx, 0, none⟩ = some (.slice (some ⟨g2, 0, none⟩) (l.length + 1) p2) := by simp [World.cell?, NBx37.out]
            have cBx1_37 : w37.cell? ⟨Bx, 1, none⟩ = some (.int .i64 T) := by simp [World.cell?, NBx37.out]
            have cBx2_37 : w37.cell? ⟨Bx, 2, none⟩ = some (.int .i64 C) := by simp [World.cell?, NBx37.out]
            rcases (by have := H1.out; rw [this]; split <;> simp : S = 9 ∨ S = 0) with hS | hS
            · subst hS
              clear H1 hss
              go_wp2_with fail
              refine (control_gen (n := l.length + 1) (cap := cq4) (by omega) moreL_len FQ37.out).mono ?_
              rintro e w38 ⟨Ac, cc, D, rfl, hci, hcv, hb⟩; rw [HS.out]
              have HB38 := Lib.hid ((HB37.out).trans (hb.mono (HB37.out).size))
              have NBi38 := Lib.hid ((hb.block Bi (Array.getElem?_eq_some_iff.1 NBi37.out).1).trans NBi37.out)
              have NBa38 := Lib.hid ((hb.block Ba (Array.getElem?_eq_some_iff.1 NBa37.out).1).trans NBa37.out)
              have NBx38 := Lib.hid ((hb.block Bx (Array.getElem?_eq_some_iff.1 NBx37.out).1).trans NBx37.out)
              have FRx38 := Lib.hid ((FRx37.out).keep hb (Nat.le_refl _))
              have FG38 := Lib.hid ((FG37.out).keep hb (Nat.le_refl _))
              have FQ38 := Lib.hid ((FQ37.out).keep hb (Nat.le_refl _))
              clear HB37 NBi37 NBa37 NBx37 cBi0_37 cBi1_37 cBi2_37 cBa0_37 cBa1_37 cBa2_37 cBa3_37 cBx0_37 cBx1_37 cBx2_37 FRx37 FG37 FQ37 hb hcv hci
              have cBi0_38 : w38.cell? ⟨Bi, 0, none⟩ = some (.slice (some ⟨b, o, none⟩) l.length cap) := by simp [World.cell?, NBi38.out]
              have cBi1_38 : w38.cell? ⟨Bi, 1, none⟩ = some (.int .i64 T) := by simp [World.cell?, NBi38.out]
              have cBi2_38 : w38.cell? ⟨Bi, 2, none⟩ = some (.int .i64 C) := by simp [World.cell?, NBi38.out]
              have cBa0_38 : w38.cell? ⟨Ba, 0, none⟩ = some (.int .i64 (-1)) := by simp [World.cell?, NBa38.out]
              have cBa1_38 : w38.cell? ⟨Ba, 1, none⟩ = some (.int .i64 (-1)) := by simp [World.cell?, NBa38.out]
              have cBa2_38 : w38.cell? ⟨Ba, 2, none⟩ = some (.int .i64 r) := by simp [World.cell?, NBa38.out]
              have cBa3_38 : w38.cell? ⟨Ba, 3, none⟩ = some (.int .i64 gw) := by simp [World.cell?, NBa38.out]
              have cBx0_38 : w38.cell? ⟨Bx, 0, none⟩ = some (.slice (some ⟨g2, 0, none⟩) (l.length + 1) p2) := by simp [World.cell?, NBx38.out]
              have cBx1_38 : w38.cell? ⟨Bx, 1, none⟩ = some (.int .i64 T) := by simp [World.cell?, NBx38.out]
              have cBx2_38 : w38.cell? ⟨Bx, 2, none⟩ = some (.int .i64 C) := by simp [World.cell?, NBx38.out]
              clear FQ38
              go_wp2_with fail
              refine (awake_any _).mono ?_
              rintro e w39 ⟨rfl, hb⟩
              have HB39 := Lib.hid ((HB38.out).trans (hb.mono (HB38.out).size))
              have NBi39 := Lib.hid ((hb.block Bi (Array.getElem?_eq_some_iff.1 NBi38.out).1).trans NBi38.out)
              have NBa39 := Lib.hid ((hb.block Ba (Array.getElem?_eq_some_iff.1 NBa38.out).1).trans NBa38.out)
              have NBx39 := Lib.hid ((hb.block Bx (Array.getElem?_eq_some_iff.1 NBx38.out).1).trans NBx38.out)
              have FRx39 := Lib.hid ((FRx38.out).keep hb (Nat.le_refl _))
              have FG39 := Lib.hid ((FG38.out).keep hb (Nat.le_refl _))
              clear HB38 NBi38 NBa38 NBx38 cBi0_38 cBi1_38 cBi2_38 cBa0_38 cBa1_38 cBa2_38 cBa3_38 cBx0_38 cBx1_38 cBx2_38 FRx38 FG38 hb 
              have cBi0_39 : w39.cell? ⟨Bi, 0, none⟩ = some (.slice (some ⟨b, o, none⟩) l.length cap) := by simp [World.cell?, NBi39.out]
              have cBi1_39 : w39.cell? ⟨Bi, 1, none⟩ = some (.int .i64 T) := by simp [World.cell?, NBi39.out]
              have cBi2_39 : w39.cell? ⟨Bi, 2, none⟩ = some (.int .i64 C) := by simp [World.cell?, NBi39.out]
              have cBa0_39 : w39.cell? ⟨Ba, 0, none⟩ = some (.int .i64 (-1)) := by simp [World.cell?, NBa39.out]
              have cBa1_39 : w39.cell? ⟨Ba, 1, none⟩ = some (.int .i64 (-1)) := by simp [World.cell?, NBa39.out]
              have cBa2_39 : w39.cell? ⟨Ba, 2, none⟩ = some (.int .i64 r) := by simp [World.cell?, NBa39.out]
              have cBa3_39 : w39.cell? ⟨Ba, 3, none⟩ = some (.int .i64 gw) := by simp [World.cell?, NBa39.out]
              have cBx0_39 : w39.cell? ⟨Bx, 0, none⟩ = some (.slice (some ⟨g2, 0, none⟩) (l.length + 1) p2) := by simp [World.cell?, NBx39.out]
              have cBx1_39 : w39.cell? ⟨Bx, 1, none⟩ = some (.int .i64 T) := by simp [World.cell?, NBx39.out]
              have cBx2_39 : w39.cell? ⟨Bx, 2, none⟩ = some (.int .i64 C) := by simp [World.cell?, NBx39.out]
              go_wp2_with fail
              go_ret
              exact ⟨rfl, HB39.out⟩
            · have hcan : canE l T C e [] = true := by
                have := H1.out
                rw [hS] at this
                cases q : canE l T C e [] with
                | true => rfl
                | false => rw [q] at this; simp at this
              subst hS
              clear H1 hss
              obtain ⟨rfl, hbe⟩ : m = l.length + 1 ∧ BoundsE (moreL l r gw) T C e (moreL l r gw).length bl bh := by
                rcases HBI.out with ⟨h, _⟩ | ⟨_, h1, h2⟩
                · exact absurd HS.out h
                · exact ⟨h1.trans moreL_len, h2⟩
              obtain ⟨hbl, hbh⟩ := more_bounds hcan hbe
              have hins := more_inside (r := r) (g := gw) e hcan
              have HINS := Lib.hid hins
              have HBL := Lib.hid hbl
              have HBH := Lib.hid hbh
              clear hcan hbe hbl hbh hins HBI
              go_wp2_with fail
              refine (control_gen (n := l.length + 1) (cap := cq4) (by omega) moreL_len FQ37.out).mono ?_
              rintro e w38 ⟨Ac, cc, D, rfl, hci, hcv, hb⟩; rw [HS.out]; obtain rfl : D = ctlL (moreL l r gw) T C e (moreL l r gw).length := (by rcases hcv with ⟨h, _⟩ | ⟨_, h⟩; exact absurd HS.out h; exact h)
              have HB38 := Lib.hid ((HB37.out).trans (hb.mono (HB37.out).size))
              have NBi38 := Lib.hid ((hb.block Bi (Array.getElem?_eq_some_iff.1 NBi37.out).1).trans NBi37.out)
              have NBa38 := Lib.hid ((hb.block Ba (Array.getElem?_eq_some_iff.1 NBa37.out).1).trans NBa37.out)
              have NBx38 := Lib.hid ((hb.block Bx (Array.getElem?_eq_some_iff.1 NBx37.out).1).trans NBx37.out)
              have FRx38 := Lib.hid ((FRx37.out).keep hb (Nat.le_refl _))
              have FG38 := Lib.hid ((FG37.out).keep hb (Nat.le_refl _))
              have FQ38 := Lib.hid ((FQ37.out).keep hb (Nat.le_refl _))
              have FC38 := Lib.hid hci
              clear HB37 NBi37 NBa37 NBx37 cBi0_37 cBi1_37 cBi2_37 cBa0_37 cBa1_37 cBa2_37 cBa3_37 cBx0_37 cBx1_37 cBx2_37 FRx37 FG37 FQ37 hci hb hcv
              have cBi0_38 : w38.cell? ⟨Bi, 0, none⟩ = some (.slice (some ⟨b, o, none⟩) l.length cap) := by simp [World.cell?, NBi38.out]
              have cBi1_38 : w38.cell? ⟨Bi, 1, none⟩ = some (.int .i64 T) := by simp [World.cell?, NBi38.out]
              have cBi2_38 : w38.cell? ⟨Bi, 2, none⟩ = some (.int .i64 C) := by simp [World.cell?, NBi38.out]
              have cBa0_38 : w38.cell? ⟨Ba, 0, none⟩ = some (.int .i64 (-1)) := by simp [World.cell?, NBa38.out]
              have cBa1_38 : w38.cell? ⟨Ba, 1, none⟩ = some (.int .i64 (-1)) := by simp [World.cell?, NBa38.out]
              have cBa2_38 : w38.cell? ⟨Ba, 2, none⟩ = some (.int .i64 r) := by simp [World.cell?, NBa38.out]
              have cBa3_38 : w38.cell? ⟨Ba, 3, none⟩ = some (.int .i64 gw) := by simp [World.cell?, NBa38.out]
              have cBx0_38 : w38.cell? ⟨Bx, 0, none⟩ = some (.slice (some ⟨g2, 0, none⟩) (l.length + 1) p2) := by simp [World.cell?, NBx38.out]
              have cBx1_38 : w38.cell? ⟨Bx, 1, none⟩ = some (.int .i64 T) := by simp [World.cell?, NBx38.out]
              have cBx2_38 : w38.cell? ⟨Bx, 2, none⟩ = some (.int .i64 C) := by simp [World.cell?, NBx38.out]
              clear FQ38
              obtain ⟨b1, o1, rfl, g10, g11⟩ := (FG38.out).at3 (k := l.length) (by omega)
              rw [HBL.out] at g10
              rw [HBH.out] at g11
              obtain ⟨eg, heg⟩ : ∃ q, e * gw = q := ⟨_, rfl⟩
              rw [heg] at g10 g11
              have hm0 : 0 ≤ eg := by rw [← heg]; exact Int.mul_nonneg e0 (by omega)
              have hm1 : eg ≤ 120 := by rw [← heg]; exact Int.le_trans (Int.mul_le_mul_of_nonneg_right e1 (by omega)) (by omega)
              obtain ⟨p, hp⟩ : ∃ q, max 0 (r - eg) = q := ⟨_, rfl⟩
              obtain ⟨q, hq⟩ : ∃ q, min 40 (r + eg) = q := ⟨_, rfl⟩
              rw [hp] at g10
              rw [hq] at g11
              have hcl : (ctlL (moreL l r gw) T C e (moreL l r gw).length).length ≤ 1000000 := Nat.le_trans (ctlL_length _ _ _ _ _) (by rw [HML.out]; omega)
              have HCL := Lib.hid hcl
              clear hcl
              have hle1 : (((l.length + 1 : Nat) : Int) == (l.length : Int) + 1) = true := by simp
              have j1 : (0 : Int) ≤ (l.length : Int) := by omega
              have j2 : (l.length : Int) < ((l.length + 1 : Nat) : Int) := by omega
              have hmx : (if eg < r then r - eg else 0) = p := by rw [← hp]; split <;> omega
              have hmn : (if r + eg < 40 then r + eg else 40) = q := by rw [← hq]; split <;> omega
              have j3 : (l.length : Int) < (l.length : Int) + 1 := by omega
              have v1 : IntKind.i64.wrap ((l.length : Int) + 1) = (l.length : Int) + 1 := IntWalk.i64_in _ (by omega)
              have v2 : IntKind.i64.wrap eg = eg := IntWalk.i64_in _ (by omega)
              have v3 : IntKind.i64.wrap (r - eg) = r - eg := IntWalk.i64_in _ (by omega)
              have v4 : IntKind.i64.wrap (r + eg) = r + eg := IntWalk.i64_in _ (by omega)
              clear hp hq
              go_wp2_with fail
              refine wp_region_held_drew (S := fun X => X.cell? ⟨Ba, 2, none⟩ = some (.int .i64 r) ∧ X.cell? ⟨Ba, 3, none⟩ = some (.int .i64 gw) ∧ X.cell? ⟨b1, o1 + l.length * 2, none⟩ = some (.int .i64 p) ∧ X.cell? ⟨b1, o1 + l.length * 2 + 1, none⟩ = some (.int .i64 q)) (by kernel_rfl) (⟨cBa2_38, cBa3_38, g10, g11⟩) (fun hS0 => ?_)
              refine wpAnyH_take (i := 0) (oi := { dst := some 105, op := Op.move (Operand.tmp 16), type := 52, pos := "outright.go:317", after := #[], guard := none }) (v := ?_) rfl (by kernel_rfl) (by kernel_rfl) (by kernel_rfl) (fun _ _ _ h => h) (Or.inl ⟨by rfl, ?_⟩) hS0 ?_
              rotate_left
              · intro X hX
                obtain ⟨x0, x1, x2, x3⟩ := hX
                go_simp
                try with_reducible rfl
              simp only [Act.put, List.setIfInBounds_toArray, List.set_cons_zero, List.set_cons_succ, Array.toArray_toList]
              refine wpAnyH_take (i := 1) (oi := { dst := some 106, op := Op.call { callee := Callee.builtin Builtin.len, args := #[Operand.tmp 105], argTypes := #[52] }, type := 3, pos := "outright.go:317", after := #[{ on := 0, ground := Ground.data }], guard := none }) (v := ?_) rfl (by kernel_rfl) (by kernel_rfl) (by kernel_rfl) (fun _ _ _ h => h) (Or.inl ⟨by rfl, ?_⟩) hS0 ?_
              rotate_left
              · intro X hX
                obtain ⟨x0, x1, x2, x3⟩ := hX
                go_simp
                try with_reducible rfl
              simp only [Act.put, List.setIfInBounds_toArray, List.set_cons_zero, List.set_cons_succ, Array.toArray_toList]
              refine wpAnyH_take (i := 2) (oi := { dst := some 107, op := Op.move (Operand.tmp 20), type := 3, pos := "outright.go:317", after := #[], guard := none }) (v := ?_) rfl (by kernel_rfl) (by kernel_rfl) (by kernel_rfl) (fun _ _ _ h => h) (Or.inl ⟨by rfl, ?_⟩) hS0 ?_
              rotate_left
              · intro X hX
                obtain ⟨x0, x1, x2, x3⟩ := hX
                go_simp
                try with_reducible rfl
              simp only [Act.put, List.setIfInBounds_toArray, List.set_cons_zero, List.set_cons_succ, Array.toArray_toList]
              refine wpAnyH_take (i := 3) (oi := { dst := some 108, op := Op.binOp BinOp.add 3 (Operand.tmp 107) (Operand.const (Value.int IntKind.i64 1)) 3, type := 3, pos := "outright.go:317", after := #[{ on := 2, ground := Ground.data }], guard := none }) (v := ?_) rfl (by kernel_rfl) (by kernel_rfl) (by kernel_rfl) (fun _ _ _ h => h) (Or.inl ⟨by rfl, ?_⟩) hS0 ?_
              rotate_left
              · intro X hX
                obtain ⟨x0, x1, x2, x3⟩ := hX
                go_simp
                try with_reducible rfl
              simp only [Act.put, List.setIfInBounds_toArray, List.set_cons_zero, List.set_cons_succ, Array.toArray_toList]
              refine wpAnyH_take (i := 4) (oi := { dst := some 109, op := Op.binOp BinOp.eql 3 (Operand.tmp 106) (Operand.tmp 108) 3, type := 4, pos := "outright.go:317", after := #[{ on := 1, ground := Ground.data }, { on := 3, ground := Ground.data }], guard := none }) (v := ?_) rfl (by kernel_rfl) (by kernel_rfl) (by kernel_rfl) (fun _ _ _ h => h) (Or.inl ⟨by rfl, ?_⟩) hS0 ?_
              rotate_left
              · intro X hX
                obtain ⟨x0, x1, x2, x3⟩ := hX
                go_simp
                try with_reducible rfl
              simp only [Act.put, List.setIfInBounds_toArray, List.set_cons_zero, List.set_cons_succ, Array.toArray_toList]
              refine wpAnyH_take (i := 5) (oi := { dst := some 110, op := Op.move (Operand.tmp 109), type := 4, pos := "outright.go:317", after := #[{ on := 4, ground := Ground.data }], guard := none }) (v := ?_) rfl (by kernel_rfl) (by kernel_rfl) (by kernel_rfl) (fun _ _ _ h => h) (Or.inl ⟨by rfl, ?_⟩) hS0 ?_
              rotate_left
              · intro X hX
                obtain ⟨x0, x1, x2, x3⟩ := hX
                go_simp
                try with_reducible rfl
              simp only [Act.put, List.setIfInBounds_toArray, List.set_cons_zero, List.set_cons_succ, Array.toArray_toList]
              refine wpAnyH_take (i := 6) (oi := { dst := some 111, op := Op.move (Operand.tmp 16), type := 52, pos := "outright.go:317", after := #[{ on := 5, ground := Ground.guard }], guard := some (5, true) }) (v := ?_) rfl (by kernel_rfl) (by kernel_rfl) (by kernel_rfl) (fun _ _ _ h => h) (Or.inl ⟨by rfl, ?_⟩) hS0 ?_
              rotate_left
              · intro X hX
                obtain ⟨x0, x1, x2, x3⟩ := hX
                go_simp
                try with_reducible rfl
              simp only [Act.put, List.setIfInBounds_toArray, List.set_cons_zero, List.set_cons_succ, Array.toArray_toList]
              refine wpAnyH_take (i := 7) (oi := { dst := some 112, op := Op.move (Operand.tmp 20), type := 3, pos := "outright.go:317", after := #[{ on := 5, ground := Ground.guard }], guard := some (5, true) }) (v := ?_) rfl (by kernel_rfl) (by kernel_rfl) (by kernel_rfl) (fun _ _ _ h => h) (Or.inl ⟨by rfl, ?_⟩) hS0 ?_
              rotate_left
              · intro X hX
                obtain ⟨x0, x1, x2, x3⟩ := hX
                go_simp
                try with_reducible rfl
              simp only [Act.put, List.setIfInBounds_toArray, List.set_cons_zero, List.set_cons_succ, Array.toArray_toList]
              refine wpAnyH_take (i := 8) (oi := { dst := some 113, op := Op.indexAddr 52 (Operand.tmp 111) (Operand.tmp 112), type := 0, pos := "outright.go:317", after := #[{ on := 6, ground := Ground.data }, { on := 7, ground := Ground.data }, { on := 5, ground := Ground.guard }], guard := some (5, true) }) (v := ?_) rfl (by kernel_rfl) (by kernel_rfl) (by kernel_rfl) (fun _ _ _ h => h) (Or.inl ⟨by rfl, ?_⟩) hS0 ?_
              rotate_left
              · intro X hX
                obtain ⟨x0, x1, x2, x3⟩ := hX
                go_simp
                try with_reducible rfl
              simp only [Act.put, List.setIfInBounds_toArray, List.set_cons_zero, List.set_cons_succ, Array.toArray_toList]
              refine wpAnyH_take (i := 9) (oi := { dst := some 114, op := Op.fieldAddr 58 (Operand.tmp 113) 0, type := 0, pos := "outright.go:317", after := #[{ on := 8, ground := Ground.data }, { on := 5, ground := Ground.guard }], guard := some (5, true) }) (v := ?_) rfl (by kernel_rfl) (by kernel_rfl) (by kernel_rfl) (fun _ _ _ h => h) (Or.inl ⟨by rfl, ?_⟩) hS0 ?_
              rotate_left
              · intro X hX
                obtain ⟨x0, x1, x2, x3⟩ := hX
                go_simp
                try with_reducible rfl
              simp only [Act.put, List.setIfInBounds_toArray, List.set_cons_zero, List.set_cons_succ, Array.toArray_toList]
              refine wpAnyH_take (i := 10) (oi := { dst := some 115, op := Op.load 3 (Operand.tmp 114), type := 3, pos := "outright.go:317", after := #[{ on := 9, ground := Ground.data }, { on := 5, ground := Ground.guard }], guard := some (5, true) }) (v := ?_) rfl (by kernel_rfl) (by kernel_rfl) (by kernel_rfl) (fun _ _ _ h => h) (Or.inl ⟨by rfl, ?_⟩) hS0 ?_
              rotate_left
              · intro X hX
                obtain ⟨x0, x1, x2, x3⟩ := hX
                go_simp
                try with_reducible rfl
              simp only [Act.put, List.setIfInBounds_toArray, List.set_cons_zero, List.set_cons_succ, Array.toArray_toList]
              refine wpAnyH_take (i := 11) (oi := { dst := some 116, op := Op.fieldAddr 71 (Operand.tmp 10) 2, type := 0, pos := "outright.go:317", after := #[{ on := 5, ground := Ground.guard }], guard := some (5, true) }) (v := ?_) rfl (by kernel_rfl) (by kernel_rfl) (by kernel_rfl) (fun _ _ _ h => h) (Or.inl ⟨by rfl, ?_⟩) hS0 ?_
              rotate_left
              · intro X hX
                obtain ⟨x0, x1, x2, x3⟩ := hX
                go_simp
                try with_reducible rfl
              simp only [Act.put, List.setIfInBounds_toArray, List.set_cons_zero, List.set_cons_succ, Array.toArray_toList]
              refine wpAnyH_take (i := 12) (oi := { dst := some 117, op := Op.load 3 (Operand.tmp 116), type := 3, pos := "outright.go:317", after := #[{ on := 11, ground := Ground.data }, { on := 5, ground := Ground.guard }], guard := some (5, true) }) (v := ?_) rfl (by kernel_rfl) (by kernel_rfl) (by kernel_rfl) (fun _ _ _ h => h) (Or.inl ⟨by rfl, ?_⟩) hS0 ?_
              rotate_left
              · intro X hX
                obtain ⟨x0, x1, x2, x3⟩ := hX
                go_simp
                try with_reducible rfl
              simp only [Act.put, List.setIfInBounds_toArray, List.set_cons_zero, List.set_cons_succ, Array.toArray_toList]
              refine wpAnyH_take (i := 13) (oi := { dst := some 118, op := Op.move (Operand.tmp 9), type := 3, pos := "outright.go:317", after := #[{ on := 5, ground := Ground.guard }], guard := some (5, true) }) (v := ?_) rfl (by kernel_rfl) (by kernel_rfl) (by kernel_rfl) (fun _ _ _ h => h) (Or.inl ⟨by rfl, ?_⟩) hS0 ?_
              rotate_left
              · intro X hX
                obtain ⟨x0, x1, x2, x3⟩ := hX
                go_simp
                try with_reducible rfl
              simp only [Act.put, List.setIfInBounds_toArray, List.set_cons_zero, List.set_cons_succ, Array.toArray_toList]
              refine wpAnyH_take (i := 14) (oi := { dst := some 119, op := Op.fieldAddr 71 (Operand.tmp 10) 3, type := 0, pos := "outright.go:317", after := #[{ on := 5, ground := Ground.guard }], guard := some (5, true) }) (v := ?_) rfl (by kernel_rfl) (by kernel_rfl) (by kernel_rfl) (fun _ _ _ h => h) (Or.inl ⟨by rfl, ?_⟩) hS0 ?_
              rotate_left
              · intro X hX
                obtain ⟨x0, x1, x2, x3⟩ := hX
                go_simp
                try with_reducible rfl
              simp only [Act.put, List.setIfInBounds_toArray, List.set_cons_zero, List.set_cons_succ, Array.toArray_toList]
              refine wpAnyH_take (i := 15) (oi := { dst := some 120, op := Op.load 3 (Operand.tmp 119), type := 3, pos := "outright.go:317", after := #[{ on := 14, ground := Ground.data }, { on := 5, ground := Ground.guard }], guard := some (5, true) }) (v := ?_) rfl (by kernel_rfl) (by kernel_rfl) (by kernel_rfl) (fun _ _ _ h => h) (Or.inl ⟨by rfl, ?_⟩) hS0 ?_
              rotate_left
              · intro X hX
                obtain ⟨x0, x1, x2, x3⟩ := hX
                go_simp
                try with_reducible rfl
              simp only [Act.put, List.setIfInBounds_toArray, List.set_cons_zero, List.set_cons_succ, Array.toArray_toList]
              refine wpAnyH_take (i := 16) (oi := { dst := some 121, op := Op.binOp BinOp.mul 3 (Operand.tmp 118) (Operand.tmp 120) 3, type := 3, pos := "outright.go:317", after := #[{ on := 13, ground := Ground.data }, { on := 15, ground := Ground.data }, { on := 5, ground := Ground.guard }], guard := some (5, true) }) (v := ?_) rfl (by kernel_rfl) (by kernel_rfl) (by kernel_rfl) (fun _ _ _ h => h) (Or.inl ⟨by rfl, ?_⟩) hS0 ?_
              rotate_left
              · intro X hX
                obtain ⟨x0, x1, x2, x3⟩ := hX
                go_simp
                try with_reducible rfl
              simp only [Act.put, List.setIfInBounds_toArray, List.set_cons_zero, List.set_cons_succ, Array.toArray_toList]
              refine wpAnyH_take (i := 17) (oi := { dst := some 122, op := Op.binOp BinOp.sub 3 (Operand.tmp 117) (Operand.tmp 121) 3, type := 3, pos := "outright.go:317", after := #[{ on := 12, ground := Ground.data }, { on := 16, ground := Ground.data }, { on := 5, ground := Ground.guard }], guard := some (5, true) }) (v := ?_) rfl (by kernel_rfl) (by kernel_rfl) (by kernel_rfl) (fun _ _ _ h => h) (Or.inl ⟨by rfl, ?_⟩) hS0 ?_
              rotate_left
              · intro X hX
                obtain ⟨x0, x1, x2, x3⟩ := hX
                go_simp
                try with_reducible rfl
              simp only [Act.put, List.setIfInBounds_toArray, List.set_cons_zero, List.set_cons_succ, Array.toArray_toList]
              refine wpAnyH_take (i := 18) (oi := { dst := some 123, op := Op.call { callee := Callee.builtin Builtin.max, args := #[Operand.const (Value.int IntKind.i64 0), Operand.tmp 122], argTypes := #[3, 3] }, type := 3, pos := "outright.go:317", after := #[{ on := 17, ground := Ground.data }, { on := 5, ground := Ground.guard }], guard := some (5, true) }) (v := ?_) rfl (by kernel_rfl) (by kernel_rfl) (by kernel_rfl) (fun _ _ _ h => h) (Or.inl ⟨by rfl, ?_⟩) hS0 ?_
              rotate_left
              · intro X hX
                obtain ⟨x0, x1, x2, x3⟩ := hX
                go_simp
                try with_reducible rfl
              simp only [Act.put, List.setIfInBounds_toArray, List.set_cons_zero, List.set_cons_succ, Array.toArray_toList]
              refine wpAnyH_take (i := 19) (oi := { dst := some 124, op := Op.binOp BinOp.eql 3 (Operand.tmp 115) (Operand.tmp 123) 3, type := 4, pos := "outright.go:317", after := #[{ on := 10, ground := Ground.data }, { on := 18, ground := Ground.data }, { on := 5, ground := Ground.guard }], guard := some (5, true) }) (v := ?_) rfl (by kernel_rfl) (by kernel_rfl) (by kernel_rfl) (fun _ _ _ h => h) (Or.inl ⟨by rfl, ?_⟩) hS0 ?_
              rotate_left
              · intro X hX
                obtain ⟨x0, x1, x2, x3⟩ := hX
                go_simp
                try with_reducible rfl
              simp only [Act.put, List.setIfInBounds_toArray, List.set_cons_zero, List.set_cons_succ, Array.toArray_toList]
              refine wpAnyH_take (i := 20) (oi := { dst := some 125, op := Op.pick (Operand.tmp 110) (Operand.tmp 124) (Operand.const (Value.bool false)), type := 4, pos := "outright.go:317", after := #[{ on := 5, ground := Ground.data }, { on := 19, ground := Ground.data }], guard := none }) (v := ?_) rfl (by kernel_rfl) (by kernel_rfl) (by kernel_rfl) (fun _ _ _ h => h) (Or.inl ⟨by rfl, ?_⟩) hS0 ?_
              rotate_left
              · intro X hX
                obtain ⟨x0, x1, x2, x3⟩ := hX
                go_simp
                try with_reducible rfl
              simp only [Act.put, List.setIfInBounds_toArray, List.set_cons_zero, List.set_cons_succ, Array.toArray_toList]
              refine wpAnyH_take (i := 21) (oi := { dst := some 126, op := Op.move (Operand.tmp 125), type := 4, pos := "outright.go:317", after := #[{ on := 20, ground := Ground.data }, { on := 5, ground := Ground.chain }], guard := none }) (v := ?_) rfl (by kernel_rfl) (by kernel_rfl) (by kernel_rfl) (fun _ _ _ h => h) (Or.inl ⟨by rfl, ?_⟩) hS0 ?_
              rotate_left
              · intro X hX
                obtain ⟨x0, x1, x2, x3⟩ := hX
                go_simp
                try with_reducible rfl
              simp only [Act.put, List.setIfInBounds_toArray, List.set_cons_zero, List.set_cons_succ, Array.toArray_toList]
              refine wpAnyH_take (i := 22) (oi := { dst := some 127, op := Op.move (Operand.tmp 16), type := 52, pos := "outright.go:317", after := #[{ on := 21, ground := Ground.guard }], guard := some (21, true) }) (v := ?_) rfl (by kernel_rfl) (by kernel_rfl) (by kernel_rfl) (fun _ _ _ h => h) (Or.inl ⟨by rfl, ?_⟩) hS0 ?_
              rotate_left
              · intro X hX
                obtain ⟨x0, x1, x2, x3⟩ := hX
                go_simp
                try with_reducible rfl
              simp only [Act.put, List.setIfInBounds_toArray, List.set_cons_zero, List.set_cons_succ, Array.toArray_toList]
              refine wpAnyH_take (i := 23) (oi := { dst := some 128, op := Op.move (Operand.tmp 20), type := 3, pos := "outright.go:317", after := #[{ on := 21, ground := Ground.guard }], guard := some (21, true) }) (v := ?_) rfl (by kernel_rfl) (by kernel_rfl) (by kernel_rfl) (fun _ _ _ h => h) (Or.inl ⟨by rfl, ?_⟩) hS0 ?_
              rotate_left
              · intro X hX
                obtain ⟨x0, x1, x2, x3⟩ := hX
                go_simp
                try with_reducible rfl
              simp only [Act.put, List.setIfInBounds_toArray, List.set_cons_zero, List.set_cons_succ, Array.toArray_toList]
              refine wpAnyH_take (i := 24) (oi := { dst := some 129, op := Op.indexAddr 52 (Operand.tmp 127) (Operand.tmp 128), type := 0, pos := "outright.go:317", after := #[{ on := 22, ground := Ground.data }, { on := 23, ground := Ground.data }, { on := 21, ground := Ground.guard }], guard := some (21, true) }) (v := ?_) rfl (by kernel_rfl) (by kernel_rfl) (by kernel_rfl) (fun _ _ _ h => h) (Or.inl ⟨by rfl, ?_⟩) hS0 ?_
              rotate_left
              · intro X hX
                obtain ⟨x0, x1, x2, x3⟩ := hX
                go_simp
                try with_reducible rfl
              simp only [Act.put, List.setIfInBounds_toArray, List.set_cons_zero, List.set_cons_succ, Array.toArray_toList]
              refine wpAnyH_take (i := 25) (oi := { dst := some 130, op := Op.fieldAddr 58 (Operand.tmp 129) 1, type := 0, pos := "outright.go:317", after := #[{ on := 24, ground := Ground.data }, { on := 21, ground := Ground.guard }], guard := some (21, true) }) (v := ?_) rfl (by kernel_rfl) (by kernel_rfl) (by kernel_rfl) (fun _ _ _ h => h) (Or.inl ⟨by rfl, ?_⟩) hS0 ?_
              rotate_left
              · intro X hX
                obtain ⟨x0, x1, x2, x3⟩ := hX
                go_simp
                try with_reducible rfl
              simp only [Act.put, List.setIfInBounds_toArray, List.set_cons_zero, List.set_cons_succ, Array.toArray_toList]
              refine wpAnyH_take (i := 26) (oi := { dst := some 131, op := Op.load 3 (Operand.tmp 130), type := 3, pos := "outright.go:317", after := #[{ on := 25, ground := Ground.data }, { on := 21, ground := Ground.guard }], guard := some (21, true) }) (v := ?_) rfl (by kernel_rfl) (by kernel_rfl) (by kernel_rfl) (fun _ _ _ h => h) (Or.inl ⟨by rfl, ?_⟩) hS0 ?_
              rotate_left
              · intro X hX
                obtain ⟨x0, x1, x2, x3⟩ := hX
                go_simp
                try with_reducible rfl
              simp only [Act.put, List.setIfInBounds_toArray, List.set_cons_zero, List.set_cons_succ, Array.toArray_toList]
              refine wpAnyH_take (i := 27) (oi := { dst := some 132, op := Op.fieldAddr 71 (Operand.tmp 10) 2, type := 0, pos := "outright.go:317", after := #[{ on := 21, ground := Ground.guard }], guard := some (21, true) }) (v := ?_) rfl (by kernel_rfl) (by kernel_rfl) (by kernel_rfl) (fun _ _ _ h => h) (Or.inl ⟨by rfl, ?_⟩) hS0 ?_
              rotate_left
              · intro X hX
                obtain ⟨x0, x1, x2, x3⟩ := hX
                go_simp
                try with_reducible rfl
              simp only [Act.put, List.setIfInBounds_toArray, List.set_cons_zero, List.set_cons_succ, Array.toArray_toList]
              refine wpAnyH_take (i := 28) (oi := { dst := some 133, op := Op.load 3 (Operand.tmp 132), type := 3, pos := "outright.go:317", after := #[{ on := 27, ground := Ground.data }, { on := 21, ground := Ground.guard }], guard := some (21, true) }) (v := ?_) rfl (by kernel_rfl) (by kernel_rfl) (by kernel_rfl) (fun _ _ _ h => h) (Or.inl ⟨by rfl, ?_⟩) hS0 ?_
              rotate_left
              · intro X hX
                obtain ⟨x0, x1, x2, x3⟩ := hX
                go_simp
                try with_reducible rfl
              simp only [Act.put, List.setIfInBounds_toArray, List.set_cons_zero, List.set_cons_succ, Array.toArray_toList]
              refine wpAnyH_take (i := 29) (oi := { dst := some 134, op := Op.move (Operand.tmp 9), type := 3, pos := "outright.go:317", after := #[{ on := 21, ground := Ground.guard }], guard := some (21, true) }) (v := ?_) rfl (by kernel_rfl) (by kernel_rfl) (by kernel_rfl) (fun _ _ _ h => h) (Or.inl ⟨by rfl, ?_⟩) hS0 ?_
              rotate_left
              · intro X hX
                obtain ⟨x0, x1, x2, x3⟩ := hX
                go_simp
                try with_reducible rfl
              simp only [Act.put, List.setIfInBounds_toArray, List.set_cons_zero, List.set_cons_succ, Array.toArray_toList]
              refine wpAnyH_take (i := 30) (oi := { dst := some 135, op := Op.fieldAddr 71 (Operand.tmp 10) 3, type := 0, pos := "outright.go:317", after := #[{ on := 21, ground := Ground.guard }], guard := some (21, true) }) (v := ?_) rfl (by kernel_rfl) (by kernel_rfl) (by kernel_rfl) (fun _ _ _ h => h) (Or.inl ⟨by rfl, ?_⟩) hS0 ?_
              rotate_left
              · intro X hX
                obtain ⟨x0, x1, x2, x3⟩ := hX
                go_simp
                try with_reducible rfl
              simp only [Act.put, List.setIfInBounds_toArray, List.set_cons_zero, List.set_cons_succ, Array.toArray_toList]
              refine wpAnyH_take (i := 31) (oi := { dst := some 136, op := Op.load 3 (Operand.tmp 135), type := 3, pos := "outright.go:317", after := #[{ on := 30, ground := Ground.data }, { on := 21, ground := Ground.guard }], guard := some (21, true) }) (v := ?_) rfl (by kernel_rfl) (by kernel_rfl) (by kernel_rfl) (fun _ _ _ h => h) (Or.inl ⟨by rfl, ?_⟩) hS0 ?_
              rotate_left
              · intro X hX
                obtain ⟨x0, x1, x2, x3⟩ := hX
                go_simp
                try with_reducible rfl
              simp only [Act.put, List.setIfInBounds_toArray, List.set_cons_zero, List.set_cons_succ, Array.toArray_toList]
              refine wpAnyH_take (i := 32) (oi := { dst := some 137, op := Op.binOp BinOp.mul 3 (Operand.tmp 134) (Operand.tmp 136) 3, type := 3, pos := "outright.go:317", after := #[{ on := 29, ground := Ground.data }, { on := 31, ground := Ground.data }, { on := 21, ground := Ground.guard }], guard := some (21, true) }) (v := ?_) rfl (by kernel_rfl) (by kernel_rfl) (by kernel_rfl) (fun _ _ _ h => h) (Or.inl ⟨by rfl, ?_⟩) hS0 ?_
              rotate_left
              · intro X hX
                obtain ⟨x0, x1, x2, x3⟩ := hX
                go_simp
                try with_reducible rfl
              simp only [Act.put, List.setIfInBounds_toArray, List.set_cons_zero, List.set_cons_succ, Array.toArray_toList]
              refine wpAnyH_take (i := 33) (oi := { dst := some 138, op := Op.binOp BinOp.add 3 (Operand.tmp 133) (Operand.tmp 137) 3, type := 3, pos := "outright.go:317", after := #[{ on := 28, ground := Ground.data }, { on := 32, ground := Ground.data }, { on := 21, ground := Ground.guard }], guard := some (21, true) }) (v := ?_) rfl (by kernel_rfl) (by kernel_rfl) (by kernel_rfl) (fun _ _ _ h => h) (Or.inl ⟨by rfl, ?_⟩) hS0 ?_
              rotate_left
              · intro X hX
                obtain ⟨x0, x1, x2, x3⟩ := hX
                go_simp
                try with_reducible rfl
              simp only [Act.put, List.setIfInBounds_toArray, List.set_cons_zero, List.set_cons_succ, Array.toArray_toList]
              refine wpAnyH_take (i := 34) (oi := { dst := some 139, op := Op.call { callee := Callee.builtin Builtin.min, args := #[Operand.const (Value.int IntKind.i64 40), Operand.tmp 138], argTypes := #[3, 3] }, type := 3, pos := "outright.go:317", after := #[{ on := 33, ground := Ground.data }, { on := 21, ground := Ground.guard }], guard := some (21, true) }) (v := ?_) rfl (by kernel_rfl) (by kernel_rfl) (by kernel_rfl) (fun _ _ _ h => h) (Or.inl ⟨by rfl, ?_⟩) hS0 ?_
              rotate_left
              · intro X hX
                obtain ⟨x0, x1, x2, x3⟩ := hX
                go_simp
                try with_reducible rfl
              simp only [Act.put, List.setIfInBounds_toArray, List.set_cons_zero, List.set_cons_succ, Array.toArray_toList]
              refine wpAnyH_take (i := 35) (oi := { dst := some 140, op := Op.binOp BinOp.eql 3 (Operand.tmp 131) (Operand.tmp 139) 3, type := 4, pos := "outright.go:317", after := #[{ on := 26, ground := Ground.data }, { on := 34, ground := Ground.data }, { on := 21, ground := Ground.guard }], guard := some (21, true) }) (v := ?_) rfl (by kernel_rfl) (by kernel_rfl) (by kernel_rfl) (fun _ _ _ h => h) (Or.inl ⟨by rfl, ?_⟩) hS0 ?_
              rotate_left
              · intro X hX
                obtain ⟨x0, x1, x2, x3⟩ := hX
                go_simp
                try with_reducible rfl
              simp only [Act.put, List.setIfInBounds_toArray, List.set_cons_zero, List.set_cons_succ, Array.toArray_toList]
              refine wpAnyH_take (i := 36) (oi := { dst := some 141, op := Op.pick (Operand.tmp 126) (Operand.tmp 140) (Operand.const (Value.bool false)), type := 4, pos := "outright.go:317", after := #[{ on := 21, ground := Ground.data }, { on := 35, ground := Ground.data }], guard := none }) (v := ?_) rfl (by kernel_rfl) (by kernel_rfl) (by kernel_rfl) (fun _ _ _ h => h) (Or.inl ⟨by rfl, ?_⟩) hS0 ?_
              rotate_left
              · intro X hX
                obtain ⟨x0, x1, x2, x3⟩ := hX
                go_simp
                try with_reducible rfl
              simp only [Act.put, List.setIfInBounds_toArray, List.set_cons_zero, List.set_cons_succ, Array.toArray_toList]
              refine wpAnyH_take (i := 37) (oi := { dst := some 142, op := Op.move (Operand.tmp 141), type := 4, pos := "outright.go:317", after := #[{ on := 36, ground := Ground.data }, { on := 21, ground := Ground.chain }], guard := none }) (v := ?_) rfl (by kernel_rfl) (by kernel_rfl) (by kernel_rfl) (fun _ _ _ h => h) (Or.inl ⟨by rfl, ?_⟩) hS0 ?_
              rotate_left
              · intro X hX
                obtain ⟨x0, x1, x2, x3⟩ := hX
                go_simp
                try with_reducible rfl
              simp only [Act.put, List.setIfInBounds_toArray, List.set_cons_zero, List.set_cons_succ, Array.toArray_toList]
              refine wpAnyH_take (i := 38) (oi := { dst := some 143, op := Op.move (Operand.tmp 20), type := 3, pos := "outright.go:317", after := #[{ on := 37, ground := Ground.guard }], guard := some (37, true) }) (v := ?_) rfl (by kernel_rfl) (by kernel_rfl) (by kernel_rfl) (fun _ _ _ h => h) (Or.inl ⟨by rfl, ?_⟩) hS0 ?_
              rotate_left
              · intro X hX
                obtain ⟨x0, x1, x2, x3⟩ := hX
                go_simp
                try with_reducible rfl
              simp only [Act.put, List.setIfInBounds_toArray, List.set_cons_zero, List.set_cons_succ, Array.toArray_toList]
              refine wpAnyH_take (i := 40) (oi := { dst := some 145, op := Op.move (Operand.tmp 18), type := 25, pos := "outright.go:317", after := #[{ on := 37, ground := Ground.guard }], guard := some (37, true) }) (v := ?_) rfl (by kernel_rfl) (by kernel_rfl) (by kernel_rfl) (fun _ _ _ h => h) (Or.inl ⟨by rfl, ?_⟩) hS0 ?_
              rotate_left
              · intro X hX
                obtain ⟨x0, x1, x2, x3⟩ := hX
                go_simp
                try with_reducible rfl
              simp only [Act.put, List.setIfInBounds_toArray, List.set_cons_zero, List.set_cons_succ, Array.toArray_toList]
              refine wpAnyH_ready (rs := [39]) (by kernel_rfl) (by simp) (AllReadyH.cons (o := { dst := some 144, op := Op.buildSlice 25 1 #[(0, Operand.tmp 143)], type := 25, pos := "outright.go:317", after := #[{ on := 38, ground := Ground.data }, { on := 37, ground := Ground.guard }], guard := some (37, true) }) rfl (fun K hK => ?_) AllReadyH.nil)
              go_simp
              have s0 := cell_alloc (x := .cells #[.int .i64 (l.length : Int)] 3) cBa2_38
              have s1 := cell_alloc (x := .cells #[.int .i64 (l.length : Int)] 3) cBa3_38
              have s2 := cell_alloc (x := .cells #[.int .i64 (l.length : Int)] 3) g10
              have s3 := cell_alloc (x := .cells #[.int .i64 (l.length : Int)] 3) g11
              refine hK.out _ _ (⟨s0, s1, s2, s3⟩) (fun hS1 => ?_)
              clear hS0 hK K
              refine wpAnyH_ready (rs := [41]) (by kernel_rfl) (by simp) (AllReadyH.cons (o := { dst := some 146, op := Op.call { callee := Callee.value (Operand.func 60), args := #[Operand.tmp 144, Operand.tmp 145], argTypes := #[25, 25] }, type := 4, pos := "outright.go:317", after := #[{ on := 39, ground := Ground.data }, { on := 40, ground := Ground.data }, { on := 37, ground := Ground.chain }, { on := 37, ground := Ground.guard }], guard := some (37, true) }) rfl (fun K hK => ?_) AllReadyH.nil)
              go_simp
              refine (inside_any _ _ [(l.length : Int)] (ctlL (moreL l r gw) T C e (moreL l r gw).length) _ (ints_new _ [(l.length : Int)]) (FC38.out.keep ((Below.drew (Below.refl _ w38)).alloc (Nat.le_refl _) _) (Nat.le_refl _)) (by simp) HCL.out).mono ?_
              rw [HINS.out]
              rintro e' w2 ⟨rfl, hb2⟩
              have s0' := cell_later hb2 s0
              have s1' := cell_later hb2 s1
              have s2' := cell_later hb2 s2
              have s3' := cell_later hb2 s3
              go_wp2_with fail
              refine hK.out _ _ (⟨s0', s1', s2', s3'⟩) (fun hS2 => ?_)
              clear hS1 hK K
              refine wpAnyH_take (i := 42) (oi := { dst := some 147, op := Op.unOp UnOp.not 4 (Operand.tmp 146), type := 4, pos := "outright.go:317", after := #[{ on := 41, ground := Ground.data }, { on := 37, ground := Ground.guard }], guard := some (37, true) }) (v := ?_) rfl (by kernel_rfl) (by kernel_rfl) (by kernel_rfl) (fun _ _ _ h => h) (Or.inl ⟨by rfl, ?_⟩) hS2 ?_
              rotate_left
              · intro X hX
                obtain ⟨x0, x1, x2, x3⟩ := hX
                go_simp
                try with_reducible rfl
              simp only [Act.put, List.setIfInBounds_toArray, List.set_cons_zero, List.set_cons_succ, Array.toArray_toList]
              refine wpAnyH_take (i := 43) (oi := { dst := some 148, op := Op.pick (Operand.tmp 142) (Operand.tmp 147) (Operand.const (Value.bool false)), type := 4, pos := "outright.go:317", after := #[{ on := 37, ground := Ground.data }, { on := 42, ground := Ground.data }], guard := none }) (v := ?_) rfl (by kernel_rfl) (by kernel_rfl) (by kernel_rfl) (fun _ _ _ h => h) (Or.inl ⟨by rfl, ?_⟩) hS2 ?_
              rotate_left
              · intro X hX
                obtain ⟨x0, x1, x2, x3⟩ := hX
                go_simp
                try with_reducible rfl
              simp only [Act.put, List.setIfInBounds_toArray, List.set_cons_zero, List.set_cons_succ, Array.toArray_toList]
              refine wpAnyH_take (i := 44) (oi := { dst := some 149, op := Op.move (Operand.tmp 148), type := 4, pos := "outright.go:317", after := #[{ on := 43, ground := Ground.data }, { on := 41, ground := Ground.chain }], guard := none }) (v := ?_) rfl (by kernel_rfl) (by kernel_rfl) (by kernel_rfl) (fun _ _ _ h => h) (Or.inl ⟨by rfl, ?_⟩) hS2 ?_
              rotate_left
              · intro X hX
                obtain ⟨x0, x1, x2, x3⟩ := hX
                go_simp
                try with_reducible rfl
              simp only [Act.put, List.setIfInBounds_toArray, List.set_cons_zero, List.set_cons_succ, Array.toArray_toList]
              refine wpAnyH_ready (rs := [45]) (by kernel_rfl) (by simp) (AllReadyH.cons (o := { dst := some 150, op := Op.call { callee := Callee.value (Operand.func 20), args := #[], argTypes := #[] }, type := 4, pos := "outright.go:317", after := #[{ on := 44, ground := Ground.chain }, { on := 44, ground := Ground.guard }], guard := some (44, true) }) rfl (fun K hK => ?_) AllReadyH.nil)
              go_simp
              refine (awake_any _).mono ?_
              rintro e' w3 ⟨rfl, hb3⟩
              have t0 := cell_later hb3 s0'
              have t1 := cell_later hb3 s1'
              have t2 := cell_later hb3 s2'
              have t3 := cell_later hb3 s3'
              go_wp2_with fail
              refine hK.out _ _ (⟨t0, t1, t2, t3⟩) (fun hS3 => ?_)
              clear hS2 hK K
              refine wpAnyH_take (i := 46) (oi := { dst := some 151, op := Op.pick (Operand.tmp 149) (Operand.tmp 150) (Operand.const (Value.bool false)), type := 4, pos := "outright.go:317", after := #[{ on := 44, ground := Ground.data }, { on := 45, ground := Ground.data }], guard := none }) (v := ?_) rfl (by kernel_rfl) (by kernel_rfl) (by kernel_rfl) (fun _ _ _ h => h) (Or.inl ⟨by rfl, ?_⟩) hS3 ?_
              rotate_left
              · intro X hX
                obtain ⟨x0, x1, x2, x3⟩ := hX
                go_simp
                try with_reducible rfl
              simp only [Act.put, List.setIfInBounds_toArray, List.set_cons_zero, List.set_cons_succ, Array.toArray_toList]
              refine wpAnyH_ready (rs := [47]) (by kernel_rfl) (by simp) (AllReadyH.cons (o := { dst := some 8, op := Op.assign (Operand.tmp 151), type := 4, pos := "outright.go:317", after := #[{ on := 46, ground := Ground.data }, { on := 45, ground := Ground.chain }, { on := 0, ground := Ground.phase }, { on := 1, ground := Ground.phase }, { on := 2, ground := Ground.phase }, { on := 3, ground := Ground.phase }, { on := 4, ground := Ground.phase }, { on := 5, ground := Ground.phase }, { on := 6, ground := Ground.phase }, { on := 7, ground := Ground.phase }, { on := 8, ground := Ground.phase }, { on := 9, ground := Ground.phase }, { on := 10, ground := Ground.phase }, { on := 11, ground := Ground.phase }, { on := 12, ground := Ground.phase }, { on := 13, ground := Ground.phase }, { on := 14, ground := Ground.phase }, { on := 15, ground := Ground.phase }, { on := 16, ground := Ground.phase }, { on := 17, ground := Ground.phase }, { on := 18, ground := Ground.phase }, { on := 19, ground := Ground.phase }, { on := 20, ground := Ground.phase }, { on := 21, ground := Ground.phase }, { on := 22, ground := Ground.phase }, { on := 23, ground := Ground.phase }, { on := 24, ground := Ground.phase }, { on := 25, ground := Ground.phase }, { on := 26, ground := Ground.phase }, { on := 27, ground := Ground.phase }, { on := 28, ground := Ground.phase }, { on := 29, ground := Ground.phase }, { on := 30, ground := Ground.phase }, { on := 31, ground := Ground.phase }, { on := 32, ground := Ground.phase }, { on := 33, ground := Ground.phase }, { on := 34, ground := Ground.phase }, { on := 35, ground := Ground.phase }, { on := 36, ground := Ground.phase }, { on := 37, ground := Ground.phase }, { on := 38, ground := Ground.phase }, { on := 39, ground := Ground.phase }, { on := 40, ground := Ground.phase }, { on := 41, ground := Ground.phase }, { on := 42, ground := Ground.phase }, { on := 43, ground := Ground.phase }, { on := 44, ground := Ground.phase }, { on := 45, ground := Ground.phase }, { on := 46, ground := Ground.phase }], guard := none }) rfl (fun K hK => ?_) AllReadyH.nil)
              go_simp
              refine hK.out _ _ (hS3) (fun hS4 => ?_)
              clear hS3 hK K
              refine wpAnyH_done (by kernel_rfl) ?_ _
              clear hS4
              have hbz : Below w38.heap.size w38 (w38.drew.alloc (.cells #[.int .i64 (l.length : Int)] 3)) := ((Below.drew (Below.refl _ w38)).alloc (Nat.le_refl _) _)
              have hbe := hbz.trans ((hb2.mono hbz.size).trans (hb3.mono (Nat.le_trans hbz.size hb2.size)))
              have HB99 := Lib.hid (HB38.out.trans (hbe.mono HB38.out.size))
              clear hbz hbe hb2 hb3 s0 s1 s2 s3 s0' s1' s2' s3' t0 t1 t2 t3
              go_wp2_with fail
              go_ret
              exact ⟨rfl, HB99.out⟩
          · go_simp
            refine hK.out _ _ (by obtain ⟨h0, h1, h2, h3, h4⟩ := hS1; exact ⟨cell_alloc h0, cell_alloc h1, cell_alloc h2, cell_alloc h3, cell_alloc h4⟩) (fun hS2 => ?_)
            clear hS1 hK K
            try simp only [Act.put, List.setIfInBounds_toArray, List.set_cons_zero, List.set_cons_succ, Array.toArray_toList]
            refine wpAnyH_ready (rs := [3]) (by kernel_rfl) (by simp) (AllReadyH.cons (o := { dst := some 51, op := Op.call { callee := Callee.builtin Builtin.append, args := #[Operand.tmp 48, Operand.tmp 50], argTypes := #[22, 22] }, type := 22, pos := "outright.go:305", after := #[{ on := 0, ground := Ground.data }, { on := 2, ground := Ground.data }], guard := none }) rfl (fun K hK => ?_) AllReadyH.nil)
            refine step_append_lies _ (by rfl) (.tmp 48) (.tmp 50) 22 (by rfl) (wX.heap.size) 71 i0 (.agg #[.int .i64 0, .int .i64 0, .int .i64 0, .int .i64 0]) 4 32 Try.underlying22 hi0 hz0 hz1 hz2 rfl (by decide) _ 0 [] (by rfl) ((made_in wX.drew).alloc _) ⟨b, o, none⟩ l.length cap (flatA l) (by rfl) (flatA_length _) (flat_in (HA.out.keep HX.out (Nat.le_refl _)) (((Below.refl _ wX).drew).alloc (Nat.le_refl _) _) _) (flatA_one _) hpos (by unfold maxLen; omega) (by omega) (by simp; try omega) _ rfl ?_
            intro g1 p1 w1 hown1 hgrow1 hat1 hlt1
            simp only [Nat.zero_add, List.nil_append] at hown1
            have hk1 : ∀ j, j < wX.heap.size → w1.heap[j]? = wX.heap[j]? := fun j hj => by
              rw [hgrow1.block j (by simp; try omega) (by simp [Value.ownBlock]; omega)]
              first | exact Below.heap_alloc wX.drew _ _ hj | exact (Below.heap_alloc (wX.drew.alloc _) _ _ (by simp; omega)).trans (Below.heap_alloc wX.drew _ _ hj)
            have q1 : ∀ {a : Addr} {u : Value}, wX.cell? a = some u → w1.cell? a = some u := fun {a u} h => (cell_block (hk1 a.block (World.block_lt_of_cell? _ _ h))).trans h
            refine hK.out _ _ (⟨q1 x0, q1 a0, q1 a1, q1 a2, q1 a3⟩) (fun hS3 => ?_)
            clear hS2 hK K
            try simp only [Act.put, List.setIfInBounds_toArray, List.set_cons_zero, List.set_cons_succ, Array.toArray_toList]
            try simp only [Nat.zero_add]
            refine wpAnyH_ready (rs := [6]) (by kernel_rfl) (by simp) (AllReadyH.cons (o := { dst := some 54, op := Op.call { callee := Callee.builtin Builtin.append, args := #[Operand.tmp 51, Operand.tmp 53], argTypes := #[22, 22] }, type := 22, pos := "outright.go:305", after := #[{ on := 3, ground := Ground.data }, { on := 5, ground := Ground.data }, { on := 3, ground := Ground.chain }], guard := none }) rfl (fun K hK => ?_) AllReadyH.nil)
            refine step_append_lies _ (by rfl) (.tmp 51) (.tmp 53) 22 (by rfl) _ 71 i0 (.agg #[.int .i64 0, .int .i64 0, .int .i64 0, .int .i64 0]) 4 32 Try.underlying22 hi0 hz0 hz1 hz2 rfl (by decide) _ l.length (flatA l) (by rfl) hown1 ⟨wX.heap.size + 1, 0, none⟩ 1 1 [.int .i64 (-1), .int .i64 (-1), .int .i64 r, .int .i64 gw] (by rfl) rfl (World.news_of_block ((hgrow1.block _ (by simp) (by simp [Value.ownBlock])).trans (heap_new_at _ _ _ (by simp)))) (by simp [Value.oneCell']) (by omega) (by unfold maxLen; omega) (by omega) (by have := hgrow1.size; simp at this; omega) _ rfl ?_
            intro g2 p2 w2 hown2 hgrow2 hat2 hlt2
            have hb1 := hown1.lt g1 rfl
            have hk2 : ∀ j, j < wX.heap.size → w2.heap[j]? = wX.heap[j]? := fun j hj => by
              rw [hgrow2.block j (by first | omega | (simp; omega)) (by simp [Value.ownBlock]; omega)]
              exact hk1 j hj
            have q2 : ∀ {a : Addr} {u : Value}, wX.cell? a = some u → w2.cell? a = some u := fun {a u} h => (cell_block (hk2 a.block (World.block_lt_of_cell? _ _ h))).trans h
            refine hK.out _ _ (⟨q2 x0, q2 a0, q2 a1, q2 a2, q2 a3⟩) (fun hS4 => ?_)
            clear hS3 hK K
            try simp only [Act.put, List.setIfInBounds_toArray, List.set_cons_zero, List.set_cons_succ, Array.toArray_toList]
            refine wpAnyH_take (i := 7) (oi := { dst := some 55, op := Op.fieldAddr 24 (Operand.tmp 11) 0, type := 0, pos := "outright.go:305", after := #[{ on := 0, ground := Ground.phase }, { on := 1, ground := Ground.phase }, { on := 2, ground := Ground.phase }, { on := 3, ground := Ground.phase }, { on := 4, ground := Ground.phase }, { on := 5, ground := Ground.phase }, { on := 6, ground := Ground.phase }], guard := none }) (v := ?_) rfl (by kernel_rfl) (by kernel_rfl) (by kernel_rfl) (fun _ _ _ h => h) (Or.inl ⟨by rfl, ?_⟩) hS4 ?_
            rotate_left
            · intro X hX
              obtain ⟨x0, x1, x2, x3, x4⟩ := hX
              go_simp
              try with_reducible rfl
            simp only [Act.put, List.setIfInBounds_toArray, List.set_cons_zero, List.set_cons_succ, Array.toArray_toList]
            have k0 : w2.frozen? ⟨Bx, 0, none⟩ = false := by simp only [World.frozen?, hk2 Bx (by rw [HSZ.out]; omega), M2.out]; rfl
            have k1 : w2.cell? ⟨Bx, 0, none⟩ = some (.slice (some ⟨b, o, none⟩) l.length cap) := by simp only [World.cell?, hk2 Bx (by rw [HSZ.out]; omega), M2.out]; rfl
            refine wpAnyH_ready (rs := [8]) (by kernel_rfl) (by simp) (AllReadyH.cons (o := { dst := none, op := Op.store 22 (Operand.tmp 55) (Operand.tmp 54), type := 0, pos := "outright.go:305", after := #[{ on := 7, ground := Ground.data }, { on := 6, ground := Ground.data }, { on := 6, ground := Ground.chain }, { on := 0, ground := Ground.phase }, { on := 1, ground := Ground.phase }, { on := 2, ground := Ground.phase }, { on := 3, ground := Ground.phase }, { on := 4, ground := Ground.phase }, { on := 5, ground := Ground.phase }, { on := 6, ground := Ground.phase }], guard := none }) rfl (fun K hK => ?_) AllReadyH.nil)
            go_simp
            have hown3 : w2.ownsRow (wX.heap.size) 71 4 (.slice (some ⟨g2, 0, none⟩) (moreL l r gw).length p2) (moreL l r gw).length (flatA (moreL l r gw)) := by
              rw [moreL_len]; unfold moreL; rw [flatA_snoc]; exact hown2
            obtain ⟨g3, c3, he3, hg3, hrow⟩ := AngRow.of_own (by rw [moreL_len]; omega) hown3
            obtain ⟨rfl, rfl⟩ : g2 = g3 ∧ p2 = c3 := by simpa using he3
            have hxs := HSZ.out
            have hB2 : Below w.heap.size w w2 := ⟨hgrow2.os.trans (hgrow1.os.trans HX.out.os), hgrow2.tape.trans (hgrow1.tape.trans HX.out.tape), hgrow2.output.trans (hgrow1.output.trans HX.out.output), by have h1 := HX.out.size; have h2 := hgrow2.size; have h3 := hgrow1.size; simp at h2 h3; omega, fun j hj => (hk2 j (Nat.lt_of_lt_of_le hj HX.out.size)).trans (HX.out.block j hj)⟩
            have hrow2 := hrow.of_block (Below.heap_setCell w2 ⟨Bx, 0, none⟩ (.slice (some ⟨g2, 0, none⟩) (l.length + 1) p2) _ (by show g2 ≠ Bx; omega))
            have hI2 := (Below.heap_setCell w2 ⟨Bx, 0, none⟩ (.slice (some ⟨g2, 0, none⟩) (l.length + 1) p2) Bi (by show Bi ≠ Bx; omega)).trans ((hk2 Bi (by omega)).trans M0.out)
            have hA2 := (Below.heap_setCell w2 ⟨Bx, 0, none⟩ (.slice (some ⟨g2, 0, none⟩) (l.length + 1) p2) Ba (by show Ba ≠ Bx; omega)).trans ((hk2 Ba (by omega)).trans M1.out)
            have hX2 := set_one ((hk2 Bx (by omega)).trans M2.out) (.slice (some ⟨g2, 0, none⟩) (l.length + 1) p2)
            have hB3 : Below w.heap.size w (w2.setCell ⟨Bx, 0, none⟩ (.slice (some ⟨g2, 0, none⟩) (l.length + 1) p2)) := hB2.setCell (by simp; omega) _
            refine hK.out _ _ (⟨by simp [World.cell?, hI2], by simp [World.cell?, hA2], by simp [World.cell?, hA2], by simp [World.cell?, hA2], by simp [World.cell?, hA2]⟩) (fun hS5 => ?_)
            clear hS4 hK K
            try simp only [Act.put, List.setIfInBounds_toArray, List.set_cons_zero, List.set_cons_succ, Array.toArray_toList]
            refine wpAnyH_done (by kernel_rfl) ?_ _
            clear hS5
            generalize w2.setCell ⟨Bx, 0, none⟩ (.slice (some ⟨g2, 0, none⟩) (l.length + 1) p2) = w30 at hrow2 hI2 hA2 hX2 hB3 ⊢
            have HB30 := Lib.hid hB3
            have NBi30 := Lib.hid hI2
            have NBa30 := Lib.hid hA2
            have NBx30 := Lib.hid hX2
            have FRx30 := Lib.hid hrow2
            clear hB3 hI2 hA2 hX2 hrow2 hB2 hrow hown3 hown2 hown1 hgrow1 hgrow2 hk1 hk2 k0 k1 hat1 hat2 hlt1 hlt2 hg3 he3 hb1 hxs x0 a0 a1 a2 a3 M0 M1 M2 HX HSZ
            have cBi0_30 : w30.cell? ⟨Bi, 0, none⟩ = some (.slice (some ⟨b, o, none⟩) l.length cap) := by simp [World.cell?, NBi30.out]
            have cBi1_30 : w30.cell? ⟨Bi, 1, none⟩ = some (.int .i64 T) := by simp [World.cell?, NBi30.out]
            have cBi2_30 : w30.cell? ⟨Bi, 2, none⟩ = some (.int .i64 C) := by simp [World.cell?, NBi30.out]
            have cBa0_30 : w30.cell? ⟨Ba, 0, none⟩ = some (.int .i64 (-1)) := by simp [World.cell?, NBa30.out]
            have cBa1_30 : w30.cell? ⟨Ba, 1, none⟩ = some (.int .i64 (-1)) := by simp [World.cell?, NBa30.out]
            have cBa2_30 : w30.cell? ⟨Ba, 2, none⟩ = some (.int .i64 r) := by simp [World.cell?, NBa30.out]
            have cBa3_30 : w30.cell? ⟨Ba, 3, none⟩ = some (.int .i64 gw) := by simp [World.cell?, NBa30.out]
            have cBx0_30 : w30.cell? ⟨Bx, 0, none⟩ = some (.slice (some ⟨g2, 0, none⟩) (l.length + 1) p2) := by simp [World.cell?, NBx30.out]
            have cBx1_30 : w30.cell? ⟨Bx, 1, none⟩ = some (.int .i64 T) := by simp [World.cell?, NBx30.out]
            have cBx2_30 : w30.cell? ⟨Bx, 2, none⟩ = some (.int .i64 C) := by simp [World.cell?, NBx30.out]
            have hok2 := moreL_ok (r := r) (g := gw) HO.out (by omega) r0 r1 g0 gw3
            have hle := more_least HO.out hok2
            have has : askedL (moreL l r gw) T C e = 0 := by unfold askedL; rw [if_neg (by rw [faultL_zero.2 hok2]; simp), if_pos ⟨e0, e1⟩]
            have hs1 := sureL_ans has
            rw [moreL_canE] at hs1
            obtain ⟨S, hS⟩ : ∃ S, sureL (moreL l r gw) T C e = S := ⟨_, rfl⟩
            have HS := Lib.hid hS
            rw [hS] at hs1
            have H1 := Lib.hid hs1
            have HLE := Lib.hid hle
            have HML := Lib.hid (moreL_len (l := l) (r := r) (g := gw))
            clear hok2 hle has hs1 hS
            go_wp2_with fail
            refine (net_any _ cap T C l _ (HA.out.keep HB30.out (Nat.le_refl _)) (by omega)).mono ?_
            rintro e w31 ⟨Aq1, cq1, rfl, hq, hqn, hb⟩
            have HB31 := Lib.hid ((HB30.out).trans (hb.mono (HB30.out).size))
            have NBi31 := Lib.hid ((hb.block Bi (Array.getElem?_eq_some_iff.1 NBi30.out).1).trans NBi30.out)
            have NBa31 := Lib.hid ((hb.block Ba (Array.getElem?_eq_some_iff.1 NBa30.out).1).trans NBa30.out)
            have NBx31 := Lib.hid ((hb.block Bx (Array.getElem?_eq_some_iff.1 NBx30.out).1).trans NBx30.out)
            have FRx31 := Lib.hid ((FRx30.out).keep hb (Nat.le_refl _))
            have FQ31 := Lib.hid hq
            clear HB30 NBi30 NBa30 NBx30 cBi0_30 cBi1_30 cBi2_30 cBa0_30 cBa1_30 cBa2_30 cBa3_30 cBx0_30 cBx1_30 cBx2_30 FRx30 hq hb hqn
            have cBi0_31 : w31.cell? ⟨Bi, 0, none⟩ = some (.slice (some ⟨b, o, none⟩) l.length cap) := by simp [World.cell?, NBi31.out]
            have cBi1_31 : w31.cell? ⟨Bi, 1, none⟩ = some (.int .i64 T) := by simp [World.cell?, NBi31.out]
            have cBi2_31 : w31.cell? ⟨Bi, 2, none⟩ = some (.int .i64 C) := by simp [World.cell?, NBi31.out]
            have cBa0_31 : w31.cell? ⟨Ba, 0, none⟩ = some (.int .i64 (-1)) := by simp [World.cell?, NBa31.out]
            have cBa1_31 : w31.cell? ⟨Ba, 1, none⟩ = some (.int .i64 (-1)) := by simp [World.cell?, NBa31.out]
            have cBa2_31 : w31.cell? ⟨Ba, 2, none⟩ = some (.int .i64 r) := by simp [World.cell?, NBa31.out]
            have cBa3_31 : w31.cell? ⟨Ba, 3, none⟩ = some (.int .i64 gw) := by simp [World.cell?, NBa31.out]
            have cBx0_31 : w31.cell? ⟨Bx, 0, none⟩ = some (.slice (some ⟨g2, 0, none⟩) (l.length + 1) p2) := by simp [World.cell?, NBx31.out]
            have cBx1_31 : w31.cell? ⟨Bx, 1, none⟩ = some (.int .i64 T) := by simp [World.cell?, NBx31.out]
            have cBx2_31 : w31.cell? ⟨Bx, 2, none⟩ = some (.int .i64 C) := by simp [World.cell?, NBx31.out]
            go_wp2_with fail
            refine (least_any Aq1 l.length cq1 T C l _ (by omega) rfl FQ31.out).mono ?_
            rintro e w32 ⟨rfl, hb⟩
            have HB32 := Lib.hid ((HB31.out).trans (hb.mono (HB31.out).size))
            have NBi32 := Lib.hid ((hb.block Bi (Array.getElem?_eq_some_iff.1 NBi31.out).1).trans NBi31.out)
            have NBa32 := Lib.hid ((hb.block Ba (Array.getElem?_eq_some_iff.1 NBa31.out).1).trans NBa31.out)
            have NBx32 := Lib.hid ((hb.block Bx (Array.getElem?_eq_some_iff.1 NBx31.out).1).trans NBx31.out)
            have FRx32 := Lib.hid ((FRx31.out).keep hb (Nat.le_refl _))
            have FQ32 := Lib.hid ((FQ31.out).keep hb (Nat.le_refl _))
            clear HB31 NBi31 NBa31 NBx31 cBi0_31 cBi1_31 cBi2_31 cBa0_31 cBa1_31 cBa2_31 cBa3_31 cBx0_31 cBx1_31 cBx2_31 FRx31 FQ31 hb 
            have cBi0_32 : w32.cell? ⟨Bi, 0, none⟩ = some (.slice (some ⟨b, o, none⟩) l.length cap) := by simp [World.cell?, NBi32.out]
            have cBi1_32 : w32.cell? ⟨Bi, 1, none⟩ = some (.int .i64 T) := by simp [World.cell?, NBi32.out]
            have cBi2_32 : w32.cell? ⟨Bi, 2, none⟩ = some (.int .i64 C) := by simp [World.cell?, NBi32.out]
            have cBa0_32 : w32.cell? ⟨Ba, 0, none⟩ = some (.int .i64 (-1)) := by simp [World.cell?, NBa32.out]
            have cBa1_32 : w32.cell? ⟨Ba, 1, none⟩ = some (.int .i64 (-1)) := by simp [World.cell?, NBa32.out]
            have cBa2_32 : w32.cell? ⟨Ba, 2, none⟩ = some (.int .i64 r) := by simp [World.cell?, NBa32.out]
            have cBa3_32 : w32.cell? ⟨Ba, 3, none⟩ = some (.int .i64 gw) := by simp [World.cell?, NBa32.out]
            have cBx0_32 : w32.cell? ⟨Bx, 0, none⟩ = some (.slice (some ⟨g2, 0, none⟩) (l.length + 1) p2) := by simp [World.cell?, NBx32.out]
            have cBx1_32 : w32.cell? ⟨Bx, 1, none⟩ = some (.int .i64 T) := by simp [World.cell?, NBx32.out]
            have cBx2_32 : w32.cell? ⟨Bx, 2, none⟩ = some (.int .i64 C) := by simp [World.cell?, NBx32.out]
            clear FQ32
            go_wp2_with fail
            refine (net_row moreL_len (by omega) FRx32.out).mono ?_
            rintro e w33 ⟨Aq2, cq2, rfl, hq, hb⟩
            have HB33 := Lib.hid ((HB32.out).trans (hb.mono (HB32.out).size))
            have NBi33 := Lib.hid ((hb.block Bi (Array.getElem?_eq_some_iff.1 NBi32.out).1).trans NBi32.out)
            have NBa33 := Lib.hid ((hb.block Ba (Array.getElem?_eq_some_iff.1 NBa32.out).1).trans NBa32.out)
            have NBx33 := Lib.hid ((hb.block Bx (Array.getElem?_eq_some_iff.1 NBx32.out).1).trans NBx32.out)
            have FRx33 := Lib.hid ((FRx32.out).keep hb (Nat.le_refl _))
            have FQ33 := Lib.hid hq
            clear HB32 NBi32 NBa32 NBx32 cBi0_32 cBi1_32 cBi2_32 cBa0_32 cBa1_32 cBa2_32 cBa3_32 cBx0_32 cBx1_32 cBx2_32 FRx32 hq hb 
            have cBi0_33 : w33.cell? ⟨Bi, 0, none⟩ = some (.slice (some ⟨b, o, none⟩) l.length cap) := by simp [World.cell?, NBi33.out]
            have cBi1_33 : w33.cell? ⟨Bi, 1, none⟩ = some (.int .i64 T) := by simp [World.cell?, NBi33.out]
            have cBi2_33 : w33.cell? ⟨Bi, 2, none⟩ = some (.int .i64 C) := by simp [World.cell?, NBi33.out]
            have cBa0_33 : w33.cell? ⟨Ba, 0, none⟩ = some (.int .i64 (-1)) := by simp [World.cell?, NBa33.out]
            have cBa1_33 : w33.cell? ⟨Ba, 1, none⟩ = some (.int .i64 (-1)) := by simp [World.cell?, NBa33.out]
            have cBa2_33 : w33.cell? ⟨Ba, 2, none⟩ = some (.int .i64 r) := by simp [World.cell?, NBa33.out]
            have cBa3_33 : w33.cell? ⟨Ba, 3, none⟩ = some (.int .i64 gw) := by simp [World.cell?, NBa33.out]
            have cBx0_33 : w33.cell? ⟨Bx, 0, none⟩ = some (.slice (some ⟨g2, 0, none⟩) (l.length + 1) p2) := by simp [World.cell?, NBx33.out]
            have cBx1_33 : w33.cell? ⟨Bx, 1, none⟩ = some (.int .i64 T) := by simp [World.cell?, NBx33.out]
            have cBx2_33 : w33.cell? ⟨Bx, 2, none⟩ = some (.int .i64 C) := by simp [World.cell?, NBx33.out]
            go_wp2_with fail
            refine (least_any Aq2 (l.length + 1) cq2 T C (moreL l r gw) _ (by omega) moreL_len FQ33.out).mono ?_
            rintro e w34 ⟨rfl, hb⟩; rw [HLE.out.1, HLE.out.2]
            have HB34 := Lib.hid ((HB33.out).trans (hb.mono (HB33.out).size))
            have NBi34 := Lib.hid ((hb.block Bi (Array.getElem?_eq_some_iff.1 NBi33.out).1).trans NBi33.out)
            have NBa34 := Lib.hid ((hb.block Ba (Array.getElem?_eq_some_iff.1 NBa33.out).1).trans NBa33.out)
            have NBx34 := Lib.hid ((hb.block Bx (Array.getElem?_eq_some_iff.1 NBx33.out).1).trans NBx33.out)
            have FRx34 := Lib.hid ((FRx33.out).keep hb (Nat.le_refl _))
            have FQ34 := Lib.hid ((FQ33.out).keep hb (Nat.le_refl _))
            clear HB33 NBi33 NBa33 NBx33 cBi0_33 cBi1_33 cBi2_33 cBa0_33 cBa1_33 cBa2_33 cBa3_33 cBx0_33 cBx1_33 cBx2_33 FRx33 FQ33 hb 
            have cBi0_34 : w34.cell? ⟨Bi, 0, none⟩ = some (.slice (some ⟨b, o, none⟩) l.length cap) := by simp [World.cell?, NBi34.out]
            have cBi1_34 : w34.cell? ⟨Bi, 1, none⟩ = some (.int .i64 T) := by simp [World.cell?, NBi34.out]
            have cBi2_34 : w34.cell? ⟨Bi, 2, none⟩ = some (.int .i64 C) := by simp [World.cell?, NBi34.out]
            have cBa0_34 : w34.cell? ⟨Ba, 0, none⟩ = some (.int .i64 (-1)) := by simp [World.cell?, NBa34.out]
            have cBa1_34 : w34.cell? ⟨Ba, 1, none⟩ = some (.int .i64 (-1)) := by simp [World.cell?, NBa34.out]
            have cBa2_34 : w34.cell? ⟨Ba, 2, none⟩ = some (.int .i64 r) := by simp [World.cell?, NBa34.out]
            have cBa3_34 : w34.cell? ⟨Ba, 3, none⟩ = some (.int .i64 gw) := by simp [World.cell?, NBa34.out]
            have cBx0_34 : w34.cell? ⟨Bx, 0, none⟩ = some (.slice (some ⟨g2, 0, none⟩) (l.length + 1) p2) := by simp [World.cell?, NBx34.out]
            have cBx1_34 : w34.cell? ⟨Bx, 1, none⟩ = some (.int .i64 T) := by simp [World.cell?, NBx34.out]
            have cBx2_34 : w34.cell? ⟨Bx, 2, none⟩ = some (.int .i64 C) := by simp [World.cell?, NBx34.out]
            clear FQ34
            generalize leastN l T C = N
            generalize leastE l T C = E
            have hnn : (N != N) = false := by simp
            have hee : (E != E) = false := by simp
            have hss : (S != S) = false := by simp
            go_wp2_with fail
            refine (net_row moreL_len (by omega) FRx34.out).mono ?_
            rintro e w35 ⟨Aq3, cq3, rfl, hq, hb⟩
            have HB35 := Lib.hid ((HB34.out).trans (hb.mono (HB34.out).size))
            have NBi35 := Lib.hid ((hb.block Bi (Array.getElem?_eq_some_iff.1 NBi34.out).1).trans NBi34.out)
            have NBa35 := Lib.hid ((hb.block Ba (Array.getElem?_eq_some_iff.1 NBa34.out).1).trans NBa34.out)
            have NBx35 := Lib.hid ((hb.block Bx (Array.getElem?_eq_some_iff.1 NBx34.out).1).trans NBx34.out)
            have FRx35 := Lib.hid ((FRx34.out).keep hb (Nat.le_refl _))
            have FQ35 := Lib.hid hq
            clear HB34 NBi34 NBa34 NBx34 cBi0_34 cBi1_34 cBi2_34 cBa0_34 cBa1_34 cBa2_34 cBa3_34 cBx0_34 cBx1_34 cBx2_34 FRx34 hq hb 
            have cBi0_35 : w35.cell? ⟨Bi, 0, none⟩ = some (.slice (some ⟨b, o, none⟩) l.length cap) := by simp [World.cell?, NBi35.out]
            have cBi1_35 : w35.cell? ⟨Bi, 1, none⟩ = some (.int .i64 T) := by simp [World.cell?, NBi35.out]
            have cBi2_35 : w35.cell? ⟨Bi, 2, none⟩ = some (.int .i64 C) := by simp [World.cell?, NBi35.out]
            have cBa0_35 : w35.cell? ⟨Ba, 0, none⟩ = some (.int .i64 (-1)) := by simp [World.cell?, NBa35.out]
            have cBa1_35 : w35.cell? ⟨Ba, 1, none⟩ = some (.int .i64 (-1)) := by simp [World.cell?, NBa35.out]
            have cBa2_35 : w35.cell? ⟨Ba, 2, none⟩ = some (.int .i64 r) := by simp [World.cell?, NBa35.out]
            have cBa3_35 : w35.cell? ⟨Ba, 3, none⟩ = some (.int .i64 gw) := by simp [World.cell?, NBa35.out]
            have cBx0_35 : w35.cell? ⟨Bx, 0, none⟩ = some (.slice (some ⟨g2, 0, none⟩) (l.length + 1) p2) := by simp [World.cell?, NBx35.out]
            have cBx1_35 : w35.cell? ⟨Bx, 1, none⟩ = some (.int .i64 T) := by simp [World.cell?, NBx35.out]
            have cBx2_35 : w35.cell? ⟨Bx, 2, none⟩ = some (.int .i64 C) := by simp [World.cell?, NBx35.out]
            go_wp2_with fail
            refine (bounds_gen (n := l.length + 1) (cap := cq3) (by omega) moreL_len FQ35.out).mono ?_
            rintro e w36 ⟨Ab, m, cb, bl, bh, rfl, hrg, hbi, hb⟩; rw [HS.out]; have HBI := Lib.hid hbi
            have HB36 := Lib.hid ((HB35.out).trans (hb.mono (HB35.out).size))
            have NBi36 := Lib.hid ((hb.block Bi (Array.getElem?_eq_some_iff.1 NBi35.out).1).trans NBi35.out)
            have NBa36 := Lib.hid ((hb.block Ba (Array.getElem?_eq_some_iff.1 NBa35.out).1).trans NBa35.out)
            have NBx36 := Lib.hid ((hb.block Bx (Array.getElem?_eq_some_iff.1 NBx35.out).1).trans NBx35.out)
            have FRx36 := Lib.hid ((FRx35.out).keep hb (Nat.le_refl _))
            have FQ36 := Lib.hid ((FQ35.out).keep hb (Nat.le_refl _))
            have FG36 := Lib.hid hrg
            clear HB35 NBi35 NBa35 NBx35 cBi0_35 cBi1_35 cBi2_35 cBa0_35 cBa1_35 cBa2_35 cBa3_35 cBx0_35 cBx1_35 cBx2_35 FRx35 FQ35 hrg hb hbi
            have cBi0_36 : w36.cell? ⟨Bi, 0, none⟩ = some (.slice (some ⟨b, o, none⟩) l.length cap) := by simp [World.cell?, NBi36.out]
            have cBi1_36 : w36.cell? ⟨Bi, 1, none⟩ = some (.int .i64 T) := by simp [World.cell?, NBi36.out]
            have cBi2_36 : w36.cell? ⟨Bi, 2, none⟩ = some (.int .i64 C) := by simp [World.cell?, NBi36.out]
            have cBa0_36 : w36.cell? ⟨Ba, 0, none⟩ = some (.int .i64 (-1)) := by simp [World.cell?, NBa36.out]
            have cBa1_36 : w36.cell? ⟨Ba, 1, none⟩ = some (.int .i64 (-1)) := by simp [World.cell?, NBa36.out]
            have cBa2_36 : w36.cell? ⟨Ba, 2, none⟩ = some (.int .i64 r) := by simp [World.cell?, NBa36.out]
            have cBa3_36 : w36.cell? ⟨Ba, 3, none⟩ = some (.int .i64 gw) := by simp [World.cell?, NBa36.out]
            have cBx0_36 : w36.cell? ⟨Bx, 0, none⟩ = some (.slice (some ⟨g2, 0, none⟩) (l.length + 1) p2) := by simp [World.cell?, NBx36.out]
            have cBx1_36 : w36.cell? ⟨Bx, 1, none⟩ = some (.int .i64 T) := by simp [World.cell?, NBx36.out]
            have cBx2_36 : w36.cell? ⟨Bx, 2, none⟩ = some (.int .i64 C) := by simp [World.cell?, NBx36.out]
            clear FQ36
            go_wp2_with fail
            refine (net_row moreL_len (by omega) FRx36.out).mono ?_
            rintro e w37 ⟨Aq4, cq4, rfl, hq, hb⟩
            have HB37 := Lib.hid ((HB36.out).trans (hb.mono (HB36.out).size))
            have NBi37 := Lib.hid ((hb.block Bi (Array.getElem?_eq_some_iff.1 NBi36.out).1).trans NBi36.out)
            have NBa37 := Lib.hid ((hb.block Ba (Array.getElem?_eq_some_iff.1 NBa36.out).1).trans NBa36.out)
            have NBx37 := Lib.hid ((hb.block Bx (Array.getElem?_eq_some_iff.1 NBx36.out).1).trans NBx36.out)
            have FRx37 := Lib.hid ((FRx36.out).keep hb (Nat.le_refl _))
            have FG37 := Lib.hid ((FG36.out).keep hb (Nat.le_refl _))
            have FQ37 := Lib.hid hq
            clear HB36 NBi36 NBa36 NBx36 cBi0_36 cBi1_36 cBi2_36 cBa0_36 cBa1_36 cBa2_36 cBa3_36 cBx0_36 cBx1_36 cBx2_36 FRx36 FG36 hq hb 
            have cBi0_37 : w37.cell? ⟨Bi, 0, none⟩ = some (.slice (some ⟨b, o, none⟩) l.length cap) := by simp [World.cell?, NBi37.out]
            have cBi1_37 : w37.cell? ⟨Bi, 1, none⟩ = some (.int .i64 T) := by simp [World.cell?, NBi37.out]
            have cBi2_37 : w37.cell? ⟨Bi, 2, none⟩ = some (.int .i64 C) := by simp [World.cell?, NBi37.out]
            have cBa0_37 : w37.cell? ⟨Ba, 0, none⟩ = some (.int .i64 (-1)) := by simp [World.cell?, NBa37.out]
            have cBa1_37 : w37.cell? ⟨Ba, 1, none⟩ = some (.int .i64 (-1)) := by simp [World.cell?, NBa37.out]
            have cBa2_37 : w37.cell? ⟨Ba, 2, none⟩ = some (.int .i64 r) := by simp [World.cell?, NBa37.out]
            have cBa3_37 : w37.cell? ⟨Ba, 3, none⟩ = some (.int .i64 gw) := by simp [World.cell?, NBa37.out]
            have cBx0_37 : w37.cell? ⟨Bx, 0, none⟩ = some (.slice (some ⟨g2, 0, none⟩) (l.length + 1) p2) := by simp [World.cell?, NBx37.out]
            have cBx1_37 : w37.cell? ⟨Bx, 1, none⟩ = some (.int .i64 T) := by simp [World.cell?, NBx37.out]
            have cBx2_37 : w37.cell? ⟨Bx, 2, none⟩ = some (.int .i64 C) := by simp [World.cell?, NBx37.out]
            rcases (by have := H1.out; rw [this]; split <;> simp : S = 9 ∨ S = 0) with hS | hS
            · subst hS
              clear H1 hss
              go_wp2_with fail
              refine (control_gen (n := l.length + 1) (cap := cq4) (by omega) moreL_len FQ37.out).mono ?_
              rintro e w38 ⟨Ac, cc, D, rfl, hci, hcv, hb⟩; rw [HS.out]
              have HB38 := Lib.hid ((HB37.out).trans (hb.mono (HB37.out).size))
              have NBi38 := Lib.hid ((hb.block Bi (Array.getElem?_eq_some_iff.1 NBi37.out).1).trans NBi37.out)
              have NBa38 := Lib.hid ((hb.block Ba (Array.getElem?_eq_some_iff.1 NBa37.out).1).trans NBa37.out)
              have NBx38 := Lib.hid ((hb.block Bx (Array.getElem?_eq_some_iff.1 NBx37.out).1).trans NBx37.out)
              have FRx38 := Lib.hid ((FRx37.out).keep hb (Nat.le_refl _))
              have FG38 := Lib.hid ((FG37.out).keep hb (Nat.le_refl _))
              have FQ38 := Lib.hid ((FQ37.out).keep hb (Nat.le_refl _))
              clear HB37 NBi37 NBa37 NBx37 cBi0_37 cBi1_37 cBi2_37 cBa0_37 cBa1_37 cBa2_37 cBa3_37 cBx0_37 cBx1_37 cBx2_37 FRx37 FG37 FQ37 hb hcv hci
              have cBi0_38 : w38.cell? ⟨Bi, 0, none⟩ = some (.slice (some ⟨b, o, none⟩) l.length cap) := by simp [World.cell?, NBi38.out]
              have cBi1_38 : w38.cell? ⟨Bi, 1, none⟩ = some (.int .i64 T) := by simp [World.cell?, NBi38.out]
              have cBi2_38 : w38.cell? ⟨Bi, 2, none⟩ = some (.int .i64 C) := by simp [World.cell?, NBi38.out]
              have cBa0_38 : w38.cell? ⟨Ba, 0, none⟩ = some (.int .i64 (-1)) := by simp [World.cell?, NBa38.out]
              have cBa1_38 : w38.cell? ⟨Ba, 1, none⟩ = some (.int .i64 (-1)) := by simp [World.cell?, NBa38.out]
              have cBa2_38 : w38.cell? ⟨Ba, 2, none⟩ = some (.int .i64 r) := by simp [World.cell?, NBa38.out]
              have cBa3_38 : w38.cell? ⟨Ba, 3, none⟩ = some (.int .i64 gw) := by simp [World.cell?, NBa38.out]
              have cBx0_38 : w38.cell? ⟨Bx, 0, none⟩ = some (.slice (some ⟨g2, 0, none⟩) (l.length + 1) p2) := by simp [World.cell?, NBx38.out]
              have cBx1_38 : w38.cell? ⟨Bx, 1, none⟩ = some (.int .i64 T) := by simp [World.cell?, NBx38.out]
              have cBx2_38 : w38.cell? ⟨Bx, 2, none⟩ = some (.int .i64 C) := by simp [World.cell?, NBx38.out]
              clear FQ38
              go_wp2_with fail
              refine (awake_any _).mono ?_
              rintro e w39 ⟨rfl, hb⟩
              have HB39 := Lib.hid ((HB38.out).trans (hb.mono (HB38.out).size))
              have NBi39 := Lib.hid ((hb.block Bi (Array.getElem?_eq_some_iff.1 NBi38.out).1).trans NBi38.out)
              have NBa39 := Lib.hid ((hb.block Ba (Array.getElem?_eq_some_iff.1 NBa38.out).1).trans NBa38.out)
              have NBx39 := Lib.hid ((hb.block Bx (Array.getElem?_eq_some_iff.1 NBx38.out).1).trans NBx38.out)
              have FRx39 := Lib.hid ((FRx38.out).keep hb (Nat.le_refl _))
              have FG39 := Lib.hid ((FG38.out).keep hb (Nat.le_refl _))
              clear HB38 NBi38 NBa38 NBx38 cBi0_38 cBi1_38 cBi2_38 cBa0_38 cBa1_38 cBa2_38 cBa3_38 cBx0_38 cBx1_38 cBx2_38 FRx38 FG38 hb 
              have cBi0_39 : w39.cell? ⟨Bi, 0, none⟩ = some (.slice (some ⟨b, o, none⟩) l.length cap) := by simp [World.cell?, NBi39.out]
              have cBi1_39 : w39.cell? ⟨Bi, 1, none⟩ = some (.int .i64 T) := by simp [World.cell?, NBi39.out]
              have cBi2_39 : w39.cell? ⟨Bi, 2, none⟩ = some (.int .i64 C) := by simp [World.cell?, NBi39.out]
              have cBa0_39 : w39.cell? ⟨Ba, 0, none⟩ = some (.int .i64 (-1)) := by simp [World.cell?, NBa39.out]
              have cBa1_39 : w39.cell? ⟨Ba, 1, none⟩ = some (.int .i64 (-1)) := by simp [World.cell?, NBa39.out]
              have cBa2_39 : w39.cell? ⟨Ba, 2, none⟩ = some (.int .i64 r) := by simp [World.cell?, NBa39.out]
              have cBa3_39 : w39.cell? ⟨Ba, 3, none⟩ = some (.int .i64 gw) := by simp [World.cell?, NBa39.out]
              have cBx0_39 : w39.cell? ⟨Bx, 0, none⟩ = some (.slice (some ⟨g2, 0, none⟩) (l.length + 1) p2) := by simp [World.cell?, NBx39.out]
              have cBx1_39 : w39.cell? ⟨Bx, 1, none⟩ = some (.int .i64 T) := by simp [World.cell?, NBx39.out]
              have cBx2_39 : w39.cell? ⟨Bx, 2, none⟩ = some (.int .i64 C) := by simp [World.cell?, NBx39.out]
              go_wp2_with fail
              go_ret
              exact ⟨rfl, HB39.out⟩
            · have hcan : canE l T C e [] = true := by
                have := H1.out
                rw [hS] at this
                cases q : canE l T C e [] with
                | true => rfl
                | false => rw [q] at this; simp at this
              subst hS
              clear H1 hss
              obtain ⟨rfl, hbe⟩ : m = l.length + 1 ∧ BoundsE (moreL l r gw) T C e (moreL l r gw).length bl bh := by
                rcases HBI.out with ⟨h, _⟩ | ⟨_, h1, h2⟩
                · exact absurd HS.out h
                · exact ⟨h1.trans moreL_len, h2⟩
              obtain ⟨hbl, hbh⟩ := more_bounds hcan hbe
              have hins := more_inside (r := r) (g := gw) e hcan
              have HINS := Lib.hid hins
              have HBL := Lib.hid hbl
              have HBH := Lib.hid hbh
              clear hcan hbe hbl hbh hins HBI
              go_wp2_with fail
              refine (control_gen (n := l.length + 1) (cap := cq4) (by omega) moreL_len FQ37.out).mono ?_
              rintro e w38 ⟨Ac, cc, D, rfl, hci, hcv, hb⟩; rw [HS.out]; obtain rfl : D = ctlL (moreL l r gw) T C e (moreL l r gw).length := (by rcases hcv with ⟨h, _⟩ | ⟨_, h⟩; exact absurd HS.out h; exact h)
              have HB38 := Lib.hid ((HB37.out).trans (hb.mono (HB37.out).size))
              have NBi38 := Lib.hid ((hb.block Bi (Array.getElem?_eq_some_iff.1 NBi37.out).1).trans NBi37.out)
              have NBa38 := Lib.hid ((hb.block Ba (Array.getElem?_eq_some_iff.1 NBa37.out).1).trans NBa37.out)
              have NBx38 := Lib.hid ((hb.block Bx (Array.getElem?_eq_some_iff.1 NBx37.out).1).trans NBx37.out)
              have FRx38 := Lib.hid ((FRx37.out).keep hb (Nat.le_refl _))
              have FG38 := Lib.hid ((FG37.out).keep hb (Nat.le_refl _))
              have FQ38 := Lib.hid ((FQ37.out).keep hb (Nat.le_refl _))
              have FC38 := Lib.hid hci
              clear HB37 NBi37 NBa37 NBx37 cBi0_37 cBi1_37 cBi2_37 cBa0_37 cBa1_37 cBa2_37 cBa3_37 cBx0_37 cBx1_37 cBx2_37 FRx37 FG37 FQ37 hci hb hcv
              have cBi0_38 : w38.cell? ⟨Bi, 0, none⟩ = some (.slice (some ⟨b, o, none⟩) l.length cap) := by simp [World.cell?, NBi38.out]
              have cBi1_38 : w38.cell? ⟨Bi, 1, none⟩ = some (.int .i64 T) := by simp [World.cell?, NBi38.out]
              have cBi2_38 : w38.cell? ⟨Bi, 2, none⟩ = some (.int .i64 C) := by simp [World.cell?, NBi38.out]
              have cBa0_38 : w38.cell? ⟨Ba, 0, none⟩ = some (.int .i64 (-1)) := by simp [World.cell?, NBa38.out]
              have cBa1_38 : w38.cell? ⟨Ba, 1, none⟩ = some (.int .i64 (-1)) := by simp [World.cell?, NBa38.out]
              have cBa2_38 : w38.cell? ⟨Ba, 2, none⟩ = some (.int .i64 r) := by simp [World.cell?, NBa38.out]
              have cBa3_38 : w38.cell? ⟨Ba, 3, none⟩ = some (.int .i64 gw) := by simp [World.cell?, NBa38.out]
              have cBx0_38 : w38.cell? ⟨Bx, 0, none⟩ = some (.slice (some ⟨g2, 0, none⟩) (l.length + 1) p2) := by simp [World.cell?, NBx38.out]
              have cBx1_38 : w38.cell? ⟨Bx, 1, none⟩ = some (.int .i64 T) := by simp [World.cell?, NBx38.out]
              have cBx2_38 : w38.cell? ⟨Bx, 2, none⟩ = some (.int .i64 C) := by simp [World.cell?, NBx38.out]
              clear FQ38
              obtain ⟨b1, o1, rfl, g10, g11⟩ := (FG38.out).at3 (k := l.length) (by omega)
              rw [HBL.out] at g10
              rw [HBH.out] at g11
              obtain ⟨eg, heg⟩ : ∃ q, e * gw = q := ⟨_, rfl⟩
              rw [heg] at g10 g11
              have hm0 : 0 ≤ eg := by rw [← heg]; exact Int.mul_nonneg e0 (by omega)
              have hm1 : eg ≤ 120 := by rw [← heg]; exact Int.le_trans (Int.mul_le_mul_of_nonneg_right e1 (by omega)) (by omega)
              obtain ⟨p, hp⟩ : ∃ q, max 0 (r - eg) = q := ⟨_, rfl⟩
              obtain ⟨q, hq⟩ : ∃ q, min 40 (r + eg) = q := ⟨_, rfl⟩
              rw [hp] at g10
              rw [hq] at g11
              have hcl : (ctlL (moreL l r gw) T C e (moreL l r gw).length).length ≤ 1000000 := Nat.le_trans (ctlL_length _ _ _ _ _) (by rw [HML.out]; omega)
              have HCL := Lib.hid hcl
              clear hcl
              have hle1 : (((l.length + 1 : Nat) : Int) == (l.length : Int) + 1) = true := by simp
              have j1 : (0 : Int) ≤ (l.length : Int) := by omega
              have j2 : (l.length : Int) < ((l.length + 1 : Nat) : Int) := by omega
              have hmx : (if eg < r then r - eg else 0) = p := by rw [← hp]; split <;> omega
              have hmn : (if r + eg < 40 then r + eg else 40) = q := by rw [← hq]; split <;> omega
              have j3 : (l.length : Int) < (l.length : Int) + 1 := by omega
              have v1 : IntKind.i64.wrap ((l.length : Int) + 1) = (l.length : Int) + 1 := IntWalk.i64_in _ (by omega)
              have v2 : IntKind.i64.wrap eg = eg := IntWalk.i64_in _ (by omega)
              have v3 : IntKind.i64.wrap (r - eg) = r - eg := IntWalk.i64_in _ (by omega)
              have v4 : IntKind.i64.wrap (r + eg) = r + eg := IntWalk.i64_in _ (by omega)
              clear hp hq
              go_wp2_with fail
              refine wp_region_held_drew (S := fun X => X.cell? ⟨Ba, 2, none⟩ = some (.int .i64 r) ∧ X.cell? ⟨Ba, 3, none⟩ = some (.int .i64 gw) ∧ X.cell? ⟨b1, o1 + l.length * 2, none⟩ = some (.int .i64 p) ∧ X.cell? ⟨b1, o1 + l.length * 2 + 1, none⟩ = some (.int .i64 q)) (by kernel_rfl) (⟨cBa2_38, cBa3_38, g10, g11⟩) (fun hS0 => ?_)
              refine wpAnyH_take (i := 0) (oi := { dst := some 105, op := Op.move (Operand.tmp 16), type := 52, pos := "outright.go:317", after := #[], guard := none }) (v := ?_) rfl (by kernel_rfl) (by kernel_rfl) (by kernel_rfl) (fun _ _ _ h => h) (Or.inl ⟨by rfl, ?_⟩) hS0 ?_
              rotate_left
              · intro X hX
                obtain ⟨x0, x1, x2, x3⟩ := hX
                go_simp
                try with_reducible rfl
              simp only [Act.put, List.setIfInBounds_toArray, List.set_cons_zero, List.set_cons_succ, Array.toArray_toList]
              refine wpAnyH_take (i := 1) (oi := { dst := some 106, op := Op.call { callee := Callee.builtin Builtin.len, args := #[Operand.tmp 105], argTypes := #[52] }, type := 3, pos := "outright.go:317", after := #[{ on := 0, ground := Ground.data }], guard := none }) (v := ?_) rfl (by kernel_rfl) (by kernel_rfl) (by kernel_rfl) (fun _ _ _ h => h) (Or.inl ⟨by rfl, ?_⟩) hS0 ?_
              rotate_left
              · intro X hX
                obtain ⟨x0, x1, x2, x3⟩ := hX
                go_simp
                try with_reducible rfl
              simp only [Act.put, List.setIfInBounds_toArray, List.set_cons_zero, List.set_cons_succ, Array.toArray_toList]
              refine wpAnyH_take (i := 2) (oi := { dst := some 107, op := Op.move (Operand.tmp 20), type := 3, pos := "outright.go:317", after := #[], guard := none }) (v := ?_) rfl (by kernel_rfl) (by kernel_rfl) (by kernel_rfl) (fun _ _ _ h => h) (Or.inl ⟨by rfl, ?_⟩) hS0 ?_
              rotate_left
              · intro X hX
                obtain ⟨x0, x1, x2, x3⟩ := hX
                go_simp
                try with_reducible rfl
              simp only [Act.put, List.setIfInBounds_toArray, List.set_cons_zero, List.set_cons_succ, Array.toArray_toList]
              refine wpAnyH_take (i := 3) (oi := { dst := some 108, op := Op.binOp BinOp.add 3 (Operand.tmp 107) (Operand.const (Value.int IntKind.i64 1)) 3, type := 3, pos := "outright.go:317", after := #[{ on := 2, ground := Ground.data }], guard := none }) (v := ?_) rfl (by kernel_rfl) (by kernel_rfl) (by kernel_rfl) (fun _ _ _ h => h) (Or.inl ⟨by rfl, ?_⟩) hS0 ?_
              rotate_left
              · intro X hX
                obtain ⟨x0, x1, x2, x3⟩ := hX
                go_simp
                try with_reducible rfl
              simp only [Act.put, List.setIfInBounds_toArray, List.set_cons_zero, List.set_cons_succ, Array.toArray_toList]
              refine wpAnyH_take (i := 4) (oi := { dst := some 109, op := Op.binOp BinOp.eql 3 (Operand.tmp 106) (Operand.tmp 108) 3, type := 4, pos := "outright.go:317", after := #[{ on := 1, ground := Ground.data }, { on := 3, ground := Ground.data }], guard := none }) (v := ?_) rfl (by kernel_rfl) (by kernel_rfl) (by kernel_rfl) (fun _ _ _ h => h) (Or.inl ⟨by rfl, ?_⟩) hS0 ?_
              rotate_left
              · intro X hX
                obtain ⟨x0, x1, x2, x3⟩ := hX
                go_simp
                try with_reducible rfl
              simp only [Act.put, List.setIfInBounds_toArray, List.set_cons_zero, List.set_cons_succ, Array.toArray_toList]
              refine wpAnyH_take (i := 5) (oi := { dst := some 110, op := Op.move (Operand.tmp 109), type := 4, pos := "outright.go:317", after := #[{ on := 4, ground := Ground.data }], guard := none }) (v := ?_) rfl (by kernel_rfl) (by kernel_rfl) (by kernel_rfl) (fun _ _ _ h => h) (Or.inl ⟨by rfl, ?_⟩) hS0 ?_
              rotate_left
              · intro X hX
                obtain ⟨x0, x1, x2, x3⟩ := hX
                go_simp
                try with_reducible rfl
              simp only [Act.put, List.setIfInBounds_toArray, List.set_cons_zero, List.set_cons_succ, Array.toArray_toList]
              refine wpAnyH_take (i := 6) (oi := { dst := some 111, op := Op.move (Operand.tmp 16), type := 52, pos := "outright.go:317", after := #[{ on := 5, ground := Ground.guard }], guard := some (5, true) }) (v := ?_) rfl (by kernel_rfl) (by kernel_rfl) (by kernel_rfl) (fun _ _ _ h => h) (Or.inl ⟨by rfl, ?_⟩) hS0 ?_
              rotate_left
              · intro X hX
                obtain ⟨x0, x1, x2, x3⟩ := hX
                go_simp
                try with_reducible rfl
              simp only [Act.put, List.setIfInBounds_toArray, List.set_cons_zero, List.set_cons_succ, Array.toArray_toList]
              refine wpAnyH_take (i := 7) (oi := { dst := some 112, op := Op.move (Operand.tmp 20), type := 3, pos := "outright.go:317", after := #[{ on := 5, ground := Ground.guard }], guard := some (5, true) }) (v := ?_) rfl (by kernel_rfl) (by kernel_rfl) (by kernel_rfl) (fun _ _ _ h => h) (Or.inl ⟨by rfl, ?_⟩) hS0 ?_
              rotate_left
              · intro X hX
                obtain ⟨x0, x1, x2, x3⟩ := hX
                go_simp
                try with_reducible rfl
              simp only [Act.put, List.setIfInBounds_toArray, List.set_cons_zero, List.set_cons_succ, Array.toArray_toList]
              refine wpAnyH_take (i := 8) (oi := { dst := some 113, op := Op.indexAddr 52 (Operand.tmp 111) (Operand.tmp 112), type := 0, pos := "outright.go:317", after := #[{ on := 6, ground := Ground.data }, { on := 7, ground := Ground.data }, { on := 5, ground := Ground.guard }], guard := some (5, true) }) (v := ?_) rfl (by kernel_rfl) (by kernel_rfl) (by kernel_rfl) (fun _ _ _ h => h) (Or.inl ⟨by rfl, ?_⟩) hS0 ?_
              rotate_left
              · intro X hX
                obtain ⟨x0, x1, x2, x3⟩ := hX
                go_simp
                try with_reducible rfl
              simp only [Act.put, List.setIfInBounds_toArray, List.set_cons_zero, List.set_cons_succ, Array.toArray_toList]
              refine wpAnyH_take (i := 9) (oi := { dst := some 114, op := Op.fieldAddr 58 (Operand.tmp 113) 0, type := 0, pos := "outright.go:317", after := #[{ on := 8, ground := Ground.data }, { on := 5, ground := Ground.guard }], guard := some (5, true) }) (v := ?_) rfl (by kernel_rfl) (by kernel_rfl) (by kernel_rfl) (fun _ _ _ h => h) (Or.inl ⟨by rfl, ?_⟩) hS0 ?_
              rotate_left
              · intro X hX
                obtain ⟨x0, x1, x2, x3⟩ := hX
                go_simp
                try with_reducible rfl
              simp only [Act.put, List.setIfInBounds_toArray, List.set_cons_zero, List.set_cons_succ, Array.toArray_toList]
              refine wpAnyH_take (i := 10) (oi := { dst := some 115, op := Op.load 3 (Operand.tmp 114), type := 3, pos := "outright.go:317", after := #[{ on := 9, ground := Ground.data }, { on := 5, ground := Ground.guard }], guard := some (5, true) }) (v := ?_) rfl (by kernel_rfl) (by kernel_rfl) (by kernel_rfl) (fun _ _ _ h => h) (Or.inl ⟨by rfl, ?_⟩) hS0 ?_
              rotate_left
              · intro X hX
                obtain ⟨x0, x1, x2, x3⟩ := hX
                go_simp
                try with_reducible rfl
              simp only [Act.put, List.setIfInBounds_toArray, List.set_cons_zero, List.set_cons_succ, Array.toArray_toList]
              refine wpAnyH_take (i := 11) (oi := { dst := some 116, op := Op.fieldAddr 71 (Operand.tmp 10) 2, type := 0, pos := "outright.go:317", after := #[{ on := 5, ground := Ground.guard }], guard := some (5, true) }) (v := ?_) rfl (by kernel_rfl) (by kernel_rfl) (by kernel_rfl) (fun _ _ _ h => h) (Or.inl ⟨by rfl, ?_⟩) hS0 ?_
              rotate_left
              · intro X hX
                obtain ⟨x0, x1, x2, x3⟩ := hX
                go_simp
                try with_reducible rfl
              simp only [Act.put, List.setIfInBounds_toArray, List.set_cons_zero, List.set_cons_succ, Array.toArray_toList]
              refine wpAnyH_take (i := 12) (oi := { dst := some 117, op := Op.load 3 (Operand.tmp 116), type := 3, pos := "outright.go:317", after := #[{ on := 11, ground := Ground.data }, { on := 5, ground := Ground.guard }], guard := some (5, true) }) (v := ?_) rfl (by kernel_rfl) (by kernel_rfl) (by kernel_rfl) (fun _ _ _ h => h) (Or.inl ⟨by rfl, ?_⟩) hS0 ?_
              rotate_left
              · intro X hX
                obtain ⟨x0, x1, x2, x3⟩ := hX
                go_simp
                try with_reducible rfl
              simp only [Act.put, List.setIfInBounds_toArray, List.set_cons_zero, List.set_cons_succ, Array.toArray_toList]
              refine wpAnyH_take (i := 13) (oi := { dst := some 118, op := Op.move (Operand.tmp 9), type := 3, pos := "outright.go:317", after := #[{ on := 5, ground := Ground.guard }], guard := some (5, true) }) (v := ?_) rfl (by kernel_rfl) (by kernel_rfl) (by kernel_rfl) (fun _ _ _ h => h) (Or.inl ⟨by rfl, ?_⟩) hS0 ?_
              rotate_left
              · intro X hX
                obtain ⟨x0, x1, x2, x3⟩ := hX
                go_simp
                try with_reducible rfl
              simp only [Act.put, List.setIfInBounds_toArray, List.set_cons_zero, List.set_cons_succ, Array.toArray_toList]
              refine wpAnyH_take (i := 14) (oi := { dst := some 119, op := Op.fieldAddr 71 (Operand.tmp 10) 3, type := 0, pos := "outright.go:317", after := #[{ on := 5, ground := Ground.guard }], guard := some (5, true) }) (v := ?_) rfl (by kernel_rfl) (by kernel_rfl) (by kernel_rfl) (fun _ _ _ h => h) (Or.inl ⟨by rfl, ?_⟩) hS0 ?_
              rotate_left
              · intro X hX
                obtain ⟨x0, x1, x2, x3⟩ := hX
                go_simp
                try with_reducible rfl
              simp only [Act.put, List.setIfInBounds_toArray, List.set_cons_zero, List.set_cons_succ, Array.toArray_toList]
              refine wpAnyH_take (i := 15) (oi := { dst := some 120, op := Op.load 3 (Operand.tmp 119), type := 3, pos := "outright.go:317", after := #[{ on := 14, ground := Ground.data }, { on := 5, ground := Ground.guard }], guard := some (5, true) }) (v := ?_) rfl (by kernel_rfl) (by kernel_rfl) (by kernel_rfl) (fun _ _ _ h => h) (Or.inl ⟨by rfl, ?_⟩) hS0 ?_
              rotate_left
              · intro X hX
                obtain ⟨x0, x1, x2, x3⟩ := hX
                go_simp
                try with_reducible rfl
              simp only [Act.put, List.setIfInBounds_toArray, List.set_cons_zero, List.set_cons_succ, Array.toArray_toList]
              refine wpAnyH_take (i := 16) (oi := { dst := some 121, op := Op.binOp BinOp.mul 3 (Operand.tmp 118) (Operand.tmp 120) 3, type := 3, pos := "outright.go:317", after := #[{ on := 13, ground := Ground.data }, { on := 15, ground := Ground.data }, { on := 5, ground := Ground.guard }], guard := some (5, true) }) (v := ?_) rfl (by kernel_rfl) (by kernel_rfl) (by kernel_rfl) (fun _ _ _ h => h) (Or.inl ⟨by rfl, ?_⟩) hS0 ?_
              rotate_left
              · intro X hX
                obtain ⟨x0, x1, x2, x3⟩ := hX
                go_simp
                try with_reducible rfl
              simp only [Act.put, List.setIfInBounds_toArray, List.set_cons_zero, List.set_cons_succ, Array.toArray_toList]
              refine wpAnyH_take (i := 17) (oi := { dst := some 122, op := Op.binOp BinOp.sub 3 (Operand.tmp 117) (Operand.tmp 121) 3, type := 3, pos := "outright.go:317", after := #[{ on := 12, ground := Ground.data }, { on := 16, ground := Ground.data }, { on := 5, ground := Ground.guard }], guard := some (5, true) }) (v := ?_) rfl (by kernel_rfl) (by kernel_rfl) (by kernel_rfl) (fun _ _ _ h => h) (Or.inl ⟨by rfl, ?_⟩) hS0 ?_
              rotate_left
              · intro X hX
                obtain ⟨x0, x1, x2, x3⟩ := hX
                go_simp
                try with_reducible rfl
              simp only [Act.put, List.setIfInBounds_toArray, List.set_cons_zero, List.set_cons_succ, Array.toArray_toList]
              refine wpAnyH_take (i := 18) (oi := { dst := some 123, op := Op.call { callee := Callee.builtin Builtin.max, args := #[Operand.const (Value.int IntKind.i64 0), Operand.tmp 122], argTypes := #[3, 3] }, type := 3, pos := "outright.go:317", after := #[{ on := 17, ground := Ground.data }, { on := 5, ground := Ground.guard }], guard := some (5, true) }) (v := ?_) rfl (by kernel_rfl) (by kernel_rfl) (by kernel_rfl) (fun _ _ _ h => h) (Or.inl ⟨by rfl, ?_⟩) hS0 ?_
              rotate_left
              · intro X hX
                obtain ⟨x0, x1, x2, x3⟩ := hX
                go_simp
                try with_reducible rfl
              simp only [Act.put, List.setIfInBounds_toArray, List.set_cons_zero, List.set_cons_succ, Array.toArray_toList]
              refine wpAnyH_take (i := 19) (oi := { dst := some 124, op := Op.binOp BinOp.eql 3 (Operand.tmp 115) (Operand.tmp 123) 3, type := 4, pos := "outright.go:317", after := #[{ on := 10, ground := Ground.data }, { on := 18, ground := Ground.data }, { on := 5, ground := Ground.guard }], guard := some (5, true) }) (v := ?_) rfl (by kernel_rfl) (by kernel_rfl) (by kernel_rfl) (fun _ _ _ h => h) (Or.inl ⟨by rfl, ?_⟩) hS0 ?_
              rotate_left
              · intro X hX
                obtain ⟨x0, x1, x2, x3⟩ := hX
                go_simp
                try with_reducible rfl
              simp only [Act.put, List.setIfInBounds_toArray, List.set_cons_zero, List.set_cons_succ, Array.toArray_toList]
              refine wpAnyH_take (i := 20) (oi := { dst := some 125, op := Op.pick (Operand.tmp 110) (Operand.tmp 124) (Operand.const (Value.bool false)), type := 4, pos := "outright.go:317", after := #[{ on := 5, ground := Ground.data }, { on := 19, ground := Ground.data }], guard := none }) (v := ?_) rfl (by kernel_rfl) (by kernel_rfl) (by kernel_rfl) (fun _ _ _ h => h) (Or.inl ⟨by rfl, ?_⟩) hS0 ?_
              rotate_left
              · intro X hX
                obtain ⟨x0, x1, x2, x3⟩ := hX
                go_simp
                try with_reducible rfl
              simp only [Act.put, List.setIfInBounds_toArray, List.set_cons_zero, List.set_cons_succ, Array.toArray_toList]
              refine wpAnyH_take (i := 21) (oi := { dst := some 126, op := Op.move (Operand.tmp 125), type := 4, pos := "outright.go:317", after := #[{ on := 20, ground := Ground.data }, { on := 5, ground := Ground.chain }], guard := none }) (v := ?_) rfl (by kernel_rfl) (by kernel_rfl) (by kernel_rfl) (fun _ _ _ h => h) (Or.inl ⟨by rfl, ?_⟩) hS0 ?_
              rotate_left
              · intro X hX
                obtain ⟨x0, x1, x2, x3⟩ := hX
                go_simp
                try with_reducible rfl
              simp only [Act.put, List.setIfInBounds_toArray, List.set_cons_zero, List.set_cons_succ, Array.toArray_toList]
              refine wpAnyH_take (i := 22) (oi := { dst := some 127, op := Op.move (Operand.tmp 16), type := 52, pos := "outright.go:317", after := #[{ on := 21, ground := Ground.guard }], guard := some (21, true) }) (v := ?_) rfl (by kernel_rfl) (by kernel_rfl) (by kernel_rfl) (fun _ _ _ h => h) (Or.inl ⟨by rfl, ?_⟩) hS0 ?_
              rotate_left
              · intro X hX
                obtain ⟨x0, x1, x2, x3⟩ := hX
                go_simp
                try with_reducible rfl
              simp only [Act.put, List.setIfInBounds_toArray, List.set_cons_zero, List.set_cons_succ, Array.toArray_toList]
              refine wpAnyH_take (i := 23) (oi := { dst := some 128, op := Op.move (Operand.tmp 20), type := 3, pos := "outright.go:317", after := #[{ on := 21, ground := Ground.guard }], guard := some (21, true) }) (v := ?_) rfl (by kernel_rfl) (by kernel_rfl) (by kernel_rfl) (fun _ _ _ h => h) (Or.inl ⟨by rfl, ?_⟩) hS0 ?_
              rotate_left
              · intro X hX
                obtain ⟨x0, x1, x2, x3⟩ := hX
                go_simp
                try with_reducible rfl
              simp only [Act.put, List.setIfInBounds_toArray, List.set_cons_zero, List.set_cons_succ, Array.toArray_toList]
              refine wpAnyH_take (i := 24) (oi := { dst := some 129, op := Op.indexAddr 52 (Operand.tmp 127) (Operand.tmp 128), type := 0, pos := "outright.go:317", after := #[{ on := 22, ground := Ground.data }, { on := 23, ground := Ground.data }, { on := 21, ground := Ground.guard }], guard := some (21, true) }) (v := ?_) rfl (by kernel_rfl) (by kernel_rfl) (by kernel_rfl) (fun _ _ _ h => h) (Or.inl ⟨by rfl, ?_⟩) hS0 ?_
              rotate_left
              · intro X hX
                obtain ⟨x0, x1, x2, x3⟩ := hX
                go_simp
                try with_reducible rfl
              simp only [Act.put, List.setIfInBounds_toArray, List.set_cons_zero, List.set_cons_succ, Array.toArray_toList]
              refine wpAnyH_take (i := 25) (oi := { dst := some 130, op := Op.fieldAddr 58 (Operand.tmp 129) 1, type := 0, pos := "outright.go:317", after := #[{ on := 24, ground := Ground.data }, { on := 21, ground := Ground.guard }], guard := some (21, true) }) (v := ?_) rfl (by kernel_rfl) (by kernel_rfl) (by kernel_rfl) (fun _ _ _ h => h) (Or.inl ⟨by rfl, ?_⟩) hS0 ?_
              rotate_left
              · intro X hX
                obtain ⟨x0, x1, x2, x3⟩ := hX
                go_simp
                try with_reducible rfl
              simp only [Act.put, List.setIfInBounds_toArray, List.set_cons_zero, List.set_cons_succ, Array.toArray_toList]
              refine wpAnyH_take (i := 26) (oi := { dst := some 131, op := Op.load 3 (Operand.tmp 130), type := 3, pos := "outright.go:317", after := #[{ on := 25, ground := Ground.data }, { on := 21, ground := Ground.guard }], guard := some (21, true) }) (v := ?_) rfl (by kernel_rfl) (by kernel_rfl) (by kernel_rfl) (fun _ _ _ h => h) (Or.inl ⟨by rfl, ?_⟩) hS0 ?_
              rotate_left
              · intro X hX
                obtain ⟨x0, x1, x2, x3⟩ := hX
                go_simp
                try with_reducible rfl
              simp only [Act.put, List.setIfInBounds_toArray, List.set_cons_zero, List.set_cons_succ, Array.toArray_toList]
              refine wpAnyH_take (i := 27) (oi := { dst := some 132, op := Op.fieldAddr 71 (Operand.tmp 10) 2, type := 0, pos := "outright.go:317", after := #[{ on := 21, ground := Ground.guard }], guard := some (21, true) }) (v := ?_) rfl (by kernel_rfl) (by kernel_rfl) (by kernel_rfl) (fun _ _ _ h => h) (Or.inl ⟨by rfl, ?_⟩) hS0 ?_
              rotate_left
              · intro X hX
                obtain ⟨x0, x1, x2, x3⟩ := hX
                go_simp
                try with_reducible rfl
              simp only [Act.put, List.setIfInBounds_toArray, List.set_cons_zero, List.set_cons_succ, Array.toArray_toList]
              refine wpAnyH_take (i := 28) (oi := { dst := some 133, op := Op.load 3 (Operand.tmp 132), type := 3, pos := "outright.go:317", after := #[{ on := 27, ground := Ground.data }, { on := 21, ground := Ground.guard }], guard := some (21, true) }) (v := ?_) rfl (by kernel_rfl) (by kernel_rfl) (by kernel_rfl) (fun _ _ _ h => h) (Or.inl ⟨by rfl, ?_⟩) hS0 ?_
              rotate_left
              · intro X hX
                obtain ⟨x0, x1, x2, x3⟩ := hX
                go_simp
                try with_reducible rfl
              simp only [Act.put, List.setIfInBounds_toArray, List.set_cons_zero, List.set_cons_succ, Array.toArray_toList]
              refine wpAnyH_take (i := 29) (oi := { dst := some 134, op := Op.move (Operand.tmp 9), type := 3, pos := "outright.go:317", after := #[{ on := 21, ground := Ground.guard }], guard := some (21, true) }) (v := ?_) rfl (by kernel_rfl) (by kernel_rfl) (by kernel_rfl) (fun _ _ _ h => h) (Or.inl ⟨by rfl, ?_⟩) hS0 ?_
              rotate_left
              · intro X hX
                obtain ⟨x0, x1, x2, x3⟩ := hX
                go_simp
                try with_reducible rfl
              simp only [Act.put, List.setIfInBounds_toArray, List.set_cons_zero, List.set_cons_succ, Array.toArray_toList]
              refine wpAnyH_take (i := 30) (oi := { dst := some 135, op := Op.fieldAddr 71 (Operand.tmp 10) 3, type := 0, pos := "outright.go:317", after := #[{ on := 21, ground := Ground.guard }], guard := some (21, true) }) (v := ?_) rfl (by kernel_rfl) (by kernel_rfl) (by kernel_rfl) (fun _ _ _ h => h) (Or.inl ⟨by rfl, ?_⟩) hS0 ?_
              rotate_left
              · intro X hX
                obtain ⟨x0, x1, x2, x3⟩ := hX
                go_simp
                try with_reducible rfl
              simp only [Act.put, List.setIfInBounds_toArray, List.set_cons_zero, List.set_cons_succ, Array.toArray_toList]
              refine wpAnyH_take (i := 31) (oi := { dst := some 136, op := Op.load 3 (Operand.tmp 135), type := 3, pos := "outright.go:317", after := #[{ on := 30, ground := Ground.data }, { on := 21, ground := Ground.guard }], guard := some (21, true) }) (v := ?_) rfl (by kernel_rfl) (by kernel_rfl) (by kernel_rfl) (fun _ _ _ h => h) (Or.inl ⟨by rfl, ?_⟩) hS0 ?_
              rotate_left
              · intro X hX
                obtain ⟨x0, x1, x2, x3⟩ := hX
                go_simp
                try with_reducible rfl
              simp only [Act.put, List.setIfInBounds_toArray, List.set_cons_zero, List.set_cons_succ, Array.toArray_toList]
              refine wpAnyH_take (i := 32) (oi := { dst := some 137, op := Op.binOp BinOp.mul 3 (Operand.tmp 134) (Operand.tmp 136) 3, type := 3, pos := "outright.go:317", after := #[{ on := 29, ground := Ground.data }, { on := 31, ground := Ground.data }, { on := 21, ground := Ground.guard }], guard := some (21, true) }) (v := ?_) rfl (by kernel_rfl) (by kernel_rfl) (by kernel_rfl) (fun _ _ _ h => h) (Or.inl ⟨by rfl, ?_⟩) hS0 ?_
              rotate_left
              · intro X hX
                obtain ⟨x0, x1, x2, x3⟩ := hX
                go_simp
                try with_reducible rfl
              simp only [Act.put, List.setIfInBounds_toArray, List.set_cons_zero, List.set_cons_succ, Array.toArray_toList]
              refine wpAnyH_take (i := 33) (oi := { dst := some 138, op := Op.binOp BinOp.add 3 (Operand.tmp 133) (Operand.tmp 137) 3, type := 3, pos := "outright.go:317", after := #[{ on := 28, ground := Ground.data }, { on := 32, ground := Ground.data }, { on := 21, ground := Ground.guard }], guard := some (21, true) }) (v := ?_) rfl (by kernel_rfl) (by kernel_rfl) (by kernel_rfl) (fun _ _ _ h => h) (Or.inl ⟨by rfl, ?_⟩) hS0 ?_
              rotate_left
              · intro X hX
                obtain ⟨x0, x1, x2, x3⟩ := hX
                go_simp
                try with_reducible rfl
              simp only [Act.put, List.setIfInBounds_toArray, List.set_cons_zero, List.set_cons_succ, Array.toArray_toList]
              refine wpAnyH_take (i := 34) (oi := { dst := some 139, op := Op.call { callee := Callee.builtin Builtin.min, args := #[Operand.const (Value.int IntKind.i64 40), Operand.tmp 138], argTypes := #[3, 3] }, type := 3, pos := "outright.go:317", after := #[{ on := 33, ground := Ground.data }, { on := 21, ground := Ground.guard }], guard := some (21, true) }) (v := ?_) rfl (by kernel_rfl) (by kernel_rfl) (by kernel_rfl) (fun _ _ _ h => h) (Or.inl ⟨by rfl, ?_⟩) hS0 ?_
              rotate_left
              · intro X hX
                obtain ⟨x0, x1, x2, x3⟩ := hX
                go_simp
                try with_reducible rfl
              simp only [Act.put, List.setIfInBounds_toArray, List.set_cons_zero, List.set_cons_succ, Array.toArray_toList]
              refine wpAnyH_take (i := 35) (oi := { dst := some 140, op := Op.binOp BinOp.eql 3 (Operand.tmp 131) (Operand.tmp 139) 3, type := 4, pos := "outright.go:317", after := #[{ on := 26, ground := Ground.data }, { on := 34, ground := Ground.data }, { on := 21, ground := Ground.guard }], guard := some (21, true) }) (v := ?_) rfl (by kernel_rfl) (by kernel_rfl) (by kernel_rfl) (fun _ _ _ h => h) (Or.inl ⟨by rfl, ?_⟩) hS0 ?_
              rotate_left
              · intro X hX
                obtain ⟨x0, x1, x2, x3⟩ := hX
                go_simp
                try with_reducible rfl
              simp only [Act.put, List.setIfInBounds_toArray, List.set_cons_zero, List.set_cons_succ, Array.toArray_toList]
              refine wpAnyH_take (i := 36) (oi := { dst := some 141, op := Op.pick (Operand.tmp 126) (Operand.tmp 140) (Operand.const (Value.bool false)), type := 4, pos := "outright.go:317", after := #[{ on := 21, ground := Ground.data }, { on := 35, ground := Ground.data }], guard := none }) (v := ?_) rfl (by kernel_rfl) (by kernel_rfl) (by kernel_rfl) (fun _ _ _ h => h) (Or.inl ⟨by rfl, ?_⟩) hS0 ?_
              rotate_left
              · intro X hX
                obtain ⟨x0, x1, x2, x3⟩ := hX
                go_simp
                try with_reducible rfl
              simp only [Act.put, List.setIfInBounds_toArray, List.set_cons_zero, List.set_cons_succ, Array.toArray_toList]
              refine wpAnyH_take (i := 37) (oi := { dst := some 142, op := Op.move (Operand.tmp 141), type := 4, pos := "outright.go:317", after := #[{ on := 36, ground := Ground.data }, { on := 21, ground := Ground.chain }], guard := none }) (v := ?_) rfl (by kernel_rfl) (by kernel_rfl) (by kernel_rfl) (fun _ _ _ h => h) (Or.inl ⟨by rfl, ?_⟩) hS0 ?_
              rotate_left
              · intro X hX
                obtain ⟨x0, x1, x2, x3⟩ := hX
                go_simp
                try with_reducible rfl
              simp only [Act.put, List.setIfInBounds_toArray, List.set_cons_zero, List.set_cons_succ, Array.toArray_toList]
              refine wpAnyH_take (i := 38) (oi := { dst := some 143, op := Op.move (Operand.tmp 20), type := 3, pos := "outright.go:317", after := #[{ on := 37, ground := Ground.guard }], guard := some (37, true) }) (v := ?_) rfl (by kernel_rfl) (by kernel_rfl) (by kernel_rfl) (fun _ _ _ h => h) (Or.inl ⟨by rfl, ?_⟩) hS0 ?_
              rotate_left
              · intro X hX
                obtain ⟨x0, x1, x2, x3⟩ := hX
                go_simp
                try with_reducible rfl
              simp only [Act.put, List.setIfInBounds_toArray, List.set_cons_zero, List.set_cons_succ, Array.toArray_toList]
              refine wpAnyH_take (i := 40) (oi := { dst := some 145, op := Op.move (Operand.tmp 18), type := 25, pos := "outright.go:317", after := #[{ on := 37, ground := Ground.guard }], guard := some (37, true) }) (v := ?_) rfl (by kernel_rfl) (by kernel_rfl) (by kernel_rfl) (fun _ _ _ h => h) (Or.inl ⟨by rfl, ?_⟩) hS0 ?_
              rotate_left
              · intro X hX
                obtain ⟨x0, x1, x2, x3⟩ := hX
                go_simp
                try with_reducible rfl
              simp only [Act.put, List.setIfInBounds_toArray, List.set_cons_zero, List.set_cons_succ, Array.toArray_toList]
              refine wpAnyH_ready (rs := [39]) (by kernel_rfl) (by simp) (AllReadyH.cons (o := { dst := some 144, op := Op.buildSlice 25 1 #[(0, Operand.tmp 143)], type := 25, pos := "outright.go:317", after := #[{ on := 38, ground := Ground.data }, { on := 37, ground := Ground.guard }], guard := some (37, true) }) rfl (fun K hK => ?_) AllReadyH.nil)
              go_simp
              have s0 := cell_alloc (x := .cells #[.int .i64 (l.length : Int)] 3) cBa2_38
              have s1 := cell_alloc (x := .cells #[.int .i64 (l.length : Int)] 3) cBa3_38
              have s2 := cell_alloc (x := .cells #[.int .i64 (l.length : Int)] 3) g10
              have s3 := cell_alloc (x := .cells #[.int .i64 (l.length : Int)] 3) g11
              refine hK.out _ _ (⟨s0, s1, s2, s3⟩) (fun hS1 => ?_)
              clear hS0 hK K
              refine wpAnyH_ready (rs := [41]) (by kernel_rfl) (by simp) (AllReadyH.cons (o := { dst := some 146, op := Op.call { callee := Callee.value (Operand.func 60), args := #[Operand.tmp 144, Operand.tmp 145], argTypes := #[25, 25] }, type := 4, pos := "outright.go:317", after := #[{ on := 39, ground := Ground.data }, { on := 40, ground := Ground.data }, { on := 37, ground := Ground.chain }, { on := 37, ground := Ground.guard }], guard := some (37, true) }) rfl (fun K hK => ?_) AllReadyH.nil)
              go_simp
              refine (inside_any _ _ [(l.length : Int)] (ctlL (moreL l r gw) T C e (moreL l r gw).length) _ (ints_new _ [(l.length : Int)]) (FC38.out.keep ((Below.drew (Below.refl _ w38)).alloc (Nat.le_refl _) _) (Nat.le_refl _)) (by simp) HCL.out).mono ?_
              rw [HINS.out]
              rintro e' w2 ⟨rfl, hb2⟩
              have s0' := cell_later hb2 s0
              have s1' := cell_later hb2 s1
              have s2' := cell_later hb2 s2
              have s3' := cell_later hb2 s3
              go_wp2_with fail
              refine hK.out _ _ (⟨s0', s1', s2', s3'⟩) (fun hS2 => ?_)
              clear hS1 hK K
              refine wpAnyH_take (i := 42) (oi := { dst := some 147, op := Op.unOp UnOp.not 4 (Operand.tmp 146), type := 4, pos := "outright.go:317", after := #[{ on := 41, ground := Ground.data }, { on := 37, ground := Ground.guard }], guard := some (37, true) }) (v := ?_) rfl (by kernel_rfl) (by kernel_rfl) (by kernel_rfl) (fun _ _ _ h => h) (Or.inl ⟨by rfl, ?_⟩) hS2 ?_
              rotate_left
              · intro X hX
                obtain ⟨x0, x1, x2, x3⟩ := hX
                go_simp
                try with_reducible rfl
              simp only [Act.put, List.setIfInBounds_toArray, List.set_cons_zero, List.set_cons_succ, Array.toArray_toList]
              refine wpAnyH_take (i := 43) (oi := { dst := some 148, op := Op.pick (Operand.tmp 142) (Operand.tmp 147) (Operand.const (Value.bool false)), type := 4, pos := "outright.go:317", after := #[{ on := 37, ground := Ground.data }, { on := 42, ground := Ground.data }], guard := none }) (v := ?_) rfl (by kernel_rfl) (by kernel_rfl) (by kernel_rfl) (fun _ _ _ h => h) (Or.inl ⟨by rfl, ?_⟩) hS2 ?_
              rotate_left
              · intro X hX
                obtain ⟨x0, x1, x2, x3⟩ := hX
                go_simp
                try with_reducible rfl
              simp only [Act.put, List.setIfInBounds_toArray, List.set_cons_zero, List.set_cons_succ, Array.toArray_toList]
              refine wpAnyH_take (i := 44) (oi := { dst := some 149, op := Op.move (Operand.tmp 148), type := 4, pos := "outright.go:317", after := #[{ on := 43, ground := Ground.data }, { on := 41, ground := Ground.chain }], guard := none }) (v := ?_) rfl (by kernel_rfl) (by kernel_rfl) (by kernel_rfl) (fun _ _ _ h => h) (Or.inl ⟨by rfl, ?_⟩) hS2 ?_
              rotate_left
              · intro X hX
                obtain ⟨x0, x1, x2, x3⟩ := hX
                go_simp
                try with_reducible rfl
              simp only [Act.put, List.setIfInBounds_toArray, List.set_cons_zero, List.set_cons_succ, Array.toArray_toList]
              refine wpAnyH_ready (rs := [45]) (by kernel_rfl) (by simp) (AllReadyH.cons (o := { dst := some 150, op := Op.call { callee := Callee.value (Operand.func 20), args := #[], argTypes := #[] }, type := 4, pos := "outright.go:317", after := #[{ on := 44, ground := Ground.chain }, { on := 44, ground := Ground.guard }], guard := some (44, true) }) rfl (fun K hK => ?_) AllReadyH.nil)
              go_simp
              refine (awake_any _).mono ?_
              rintro e' w3 ⟨rfl, hb3⟩
              have t0 := cell_later hb3 s0'
              have t1 := cell_later hb3 s1'
              have t2 := cell_later hb3 s2'
              have t3 := cell_later hb3 s3'
              go_wp2_with fail
              refine hK.out _ _ (⟨t0, t1, t2, t3⟩) (fun hS3 => ?_)
              clear hS2 hK K
              refine wpAnyH_take (i := 46) (oi := { dst := some 151, op := Op.pick (Operand.tmp 149) (Operand.tmp 150) (Operand.const (Value.bool false)), type := 4, pos := "outright.go:317", after := #[{ on := 44, ground := Ground.data }, { on := 45, ground := Ground.data }], guard := none }) (v := ?_) rfl (by kernel_rfl) (by kernel_rfl) (by kernel_rfl) (fun _ _ _ h => h) (Or.inl ⟨by rfl, ?_⟩) hS3 ?_
              rotate_left
              · intro X hX
                obtain ⟨x0, x1, x2, x3⟩ := hX
                go_simp
                try with_reducible rfl
              simp only [Act.put, List.setIfInBounds_toArray, List.set_cons_zero, List.set_cons_succ, Array.toArray_toList]
              refine wpAnyH_ready (rs := [47]) (by kernel_rfl) (by simp) (AllReadyH.cons (o := { dst := some 8, op := Op.assign (Operand.tmp 151), type := 4, pos := "outright.go:317", after := #[{ on := 46, ground := Ground.data }, { on := 45, ground := Ground.chain }, { on := 0, ground := Ground.phase }, { on := 1, ground := Ground.phase }, { on := 2, ground := Ground.phase }, { on := 3, ground := Ground.phase }, { on := 4, ground := Ground.phase }, { on := 5, ground := Ground.phase }, { on := 6, ground := Ground.phase }, { on := 7, ground := Ground.phase }, { on := 8, ground := Ground.phase }, { on := 9, ground := Ground.phase }, { on := 10, ground := Ground.phase }, { on := 11, ground := Ground.phase }, { on := 12, ground := Ground.phase }, { on := 13, ground := Ground.phase }, { on := 14, ground := Ground.phase }, { on := 15, ground := Ground.phase }, { on := 16, ground := Ground.phase }, { on := 17, ground := Ground.phase }, { on := 18, ground := Ground.phase }, { on := 19, ground := Ground.phase }, { on := 20, ground := Ground.phase }, { on := 21, ground := Ground.phase }, { on := 22, ground := Ground.phase }, { on := 23, ground := Ground.phase }, { on := 24, ground := Ground.phase }, { on := 25, ground := Ground.phase }, { on := 26, ground := Ground.phase }, { on := 27, ground := Ground.phase }, { on := 28, ground := Ground.phase }, { on := 29, ground := Ground.phase }, { on := 30, ground := Ground.phase }, { on := 31, ground := Ground.phase }, { on := 32, ground := Ground.phase }, { on := 33, ground := Ground.phase }, { on := 34, ground := Ground.phase }, { on := 35, ground := Ground.phase }, { on := 36, ground := Ground.phase }, { on := 37, ground := Ground.phase }, { on := 38, ground := Ground.phase }, { on := 39, ground := Ground.phase }, { on := 40, ground := Ground.phase }, { on := 41, ground := Ground.phase }, { on := 42, ground := Ground.phase }, { on := 43, ground := Ground.phase }, { on := 44, ground := Ground.phase }, { on := 45, ground := Ground.phase }, { on := 46, ground := Ground.phase }], guard := none }) rfl (fun K hK => ?_) AllReadyH.nil)
              go_simp
              refine hK.out _ _ (hS3) (fun hS4 => ?_)
              clear hS3 hK K
              refine wpAnyH_done (by kernel_rfl) ?_ _
              clear hS4
              have hbz : Below w38.heap.size w38 (w38.drew.alloc (.cells #[.int .i64 (l.length : Int)] 3)) := ((Below.drew (Below.refl _ w38)).alloc (Nat.le_refl _) _)
              have hbe := hbz.trans ((hb2.mono hbz.size).trans (hb3.mono (Nat.le_trans hbz.size hb2.size)))
              have HB99 := Lib.hid (HB38.out.trans (hbe.mono HB38.out.size))
              clear hbz hbe hb2 hb3 s0 s1 s2 s3 s0' s1' s2' s3' t0 t1 t2 t3
              go_wp2_with fail
              go_ret
              exact ⟨rfl, HB99.out⟩
        · go_simp
          refine hK.out _ _ (by obtain ⟨h0, h1, h2, h3, h4⟩ := hS0; exact ⟨cell_alloc h0, cell_alloc h1, cell_alloc h2, cell_alloc h3, cell_alloc h4⟩) (fun hS1 => ?_)
          clear hS0 hK K
          try simp only [Act.put, List.setIfInBounds_toArray, List.set_cons_zero, List.set_cons_succ, Array.toArray_toList]
          refine wpAnyH_ready (rs := [0]) (by kernel_rfl) (by simp) (AllReadyH.cons (o := { dst := some 48, op := Op.buildSlice 22 0 #[], type := 22, pos := "outright.go:305", after := #[], guard := none }) rfl (fun K hK => ?_) AllReadyH.nil)
          go_simp
          refine hK.out _ _ (by obtain ⟨h0, h1, h2, h3, h4⟩ := hS1; exact ⟨cell_alloc h0, cell_alloc h1, cell_alloc h2, cell_alloc h3, cell_alloc h4⟩) (fun hS2 => ?_)
          clear hS1 hK K
          try simp only [Act.put, List.setIfInBounds_toArray, List.set_cons_zero, List.set_cons_succ, Array.toArray_toList]
          refine wpAnyH_ready (rs := [3]) (by kernel_rfl) (by simp) (AllReadyH.cons (o := { dst := some 51, op := Op.call { callee := Callee.builtin Builtin.append, args := #[Operand.tmp 48, Operand.tmp 50], argTypes := #[22, 22] }, type := 22, pos := "outright.go:305", after := #[{ on := 0, ground := Ground.data }, { on := 2, ground := Ground.data }], guard := none }) rfl (fun K hK => ?_) AllReadyH.nil)
          refine step_append_lies _ (by rfl) (.tmp 48) (.tmp 50) 22 (by rfl) (wX.heap.size + 1) 71 i0 (.agg #[.int .i64 0, .int .i64 0, .int .i64 0, .int .i64 0]) 4 32 Try.underlying22 hi0 hz0 hz1 hz2 rfl (by decide) _ 0 [] (by rfl) (made_in2 wX.drew _) ⟨b, o, none⟩ l.length cap (flatA l) (by rfl) (flatA_length _) (flat_in (HA.out.keep HX.out (Nat.le_refl _)) (((Below.refl _ wX).drew).alloc (Nat.le_refl _) _) _) (flatA_one _) hpos (by unfold maxLen; omega) (by omega) (by simp; try omega) _ rfl ?_
          intro g1 p1 w1 hown1 hgrow1 hat1 hlt1
          simp only [Nat.zero_add, List.nil_append] at hown1
          have hk1 : ∀ j, j < wX.heap.size → w1.heap[j]? = wX.heap[j]? := fun j hj => by
            rw [hgrow1.block j (by simp; try omega) (by simp [Value.ownBlock]; omega)]
            first | exact Below.heap_alloc wX.drew _ _ hj | exact (Below.heap_alloc (wX.drew.alloc _) _ _ (by simp; omega)).trans (Below.heap_alloc wX.drew _ _ hj)
          have q1 : ∀ {a : Addr} {u : Value}, wX.cell? a = some u → w1.cell? a = some u := fun {a u} h => (cell_block (hk1 a.block (World.block_lt_of_cell? _ _ h))).trans h
          refine hK.out _ _ (⟨q1 x0, q1 a0, q1 a1, q1 a2, q1 a3⟩) (fun hS3 => ?_)
          clear hS2 hK K
          try simp only [Act.put, List.setIfInBounds_toArray, List.set_cons_zero, List.set_cons_succ, Array.toArray_toList]
          try simp only [Nat.zero_add]
          refine wpAnyH_ready (rs := [6]) (by kernel_rfl) (by simp) (AllReadyH.cons (o := { dst := some 54, op := Op.call { callee := Callee.builtin Builtin.append, args := #[Operand.tmp 51, Operand.tmp 53], argTypes := #[22, 22] }, type := 22, pos := "outright.go:305", after := #[{ on := 3, ground := Ground.data }, { on := 5, ground := Ground.data }, { on := 3, ground := Ground.chain }], guard := none }) rfl (fun K hK => ?_) AllReadyH.nil)
          refine step_append_lies _ (by rfl) (.tmp 51) (.tmp 53) 22 (by rfl) _ 71 i0 (.agg #[.int .i64 0, .int .i64 0, .int .i64 0, .int .i64 0]) 4 32 Try.underlying22 hi0 hz0 hz1 hz2 rfl (by decide) _ l.length (flatA l) (by rfl) hown1 ⟨wX.heap.size, 0, none⟩ 1 1 [.int .i64 (-1), .int .i64 (-1), .int .i64 r, .int .i64 gw] (by rfl) rfl (World.news_of_block ((hgrow1.block _ (by simp; omega) (by simp [Value.ownBlock])).trans ((Below.heap_alloc _ _ _ (by simp)).trans (heap_new_at _ _ _ rfl)))) (by simp [Value.oneCell']) (by omega) (by unfold maxLen; omega) (by omega) (by have := hgrow1.size; simp at this; omega) _ rfl ?_
          intro g2 p2 w2 hown2 hgrow2 hat2 hlt2
          have hb1 := hown1.lt g1 rfl
          have hk2 : ∀ j, j < wX.heap.size → w2.heap[j]? = wX.heap[j]? := fun j hj => by
            rw [hgrow2.block j (by first | omega | (simp; omega)) (by simp [Value.ownBlock]; omega)]
            exact hk1 j hj
          have q2 : ∀ {a : Addr} {u : Value}, wX.cell? a = some u → w2.cell? a = some u := fun {a u} h => (cell_block (hk2 a.block (World.block_lt_of_cell? _ _ h))).trans h
          refine hK.out _ _ (⟨q2 x0, q2 a0, q2 a1, q2 a2, q2 a3⟩) (fun hS4 => ?_)
          clear hS3 hK K
          try simp only [Act.put, List.setIfInBounds_toArray, List.set_cons_zero, List.set_cons_succ, Array.toArray_toList]
          refine wpAnyH_take (i := 7) (oi := { dst := some 55, op := Op.fieldAddr 24 (Operand.tmp 11) 0, type := 0, pos := "outright.go:305", after := #[{ on := 0, ground := Ground.phase }, { on := 1, ground := Ground.phase }, { on := 2, ground := Ground.phase }, { on := 3, ground := Ground.phase }, { on := 4, ground := Ground.phase }, { on := 5, ground := Ground.phase }, { on := 6, ground := Ground.phase }], guard := none }) (v := ?_) rfl (by kernel_rfl) (by kernel_rfl) (by kernel_rfl) (fun _ _ _ h => h) (Or.inl ⟨by rfl, ?_⟩) hS4 ?_
          rotate_left
          · intro X hX
            obtain ⟨x0, x1, x2, x3, x4⟩ := hX
            go_simp
            try with_reducible rfl
          simp only [Act.put, List.setIfInBounds_toArray, List.set_cons_zero, List.set_cons_succ, Array.toArray_toList]
          have k0 : w2.frozen? ⟨Bx, 0, none⟩ = false := by simp only [World.frozen?, hk2 Bx (by rw [HSZ.out]; omega), M2.out]; rfl
          have k1 : w2.cell? ⟨Bx, 0, none⟩ = some (.slice (some ⟨b, o, none⟩) l.length cap) := by simp only [World.cell?, hk2 Bx (by rw [HSZ.out]; omega), M2.out]; rfl
          refine wpAnyH_ready (rs := [8]) (by kernel_rfl) (by simp) (AllReadyH.cons (o := { dst := none, op := Op.store 22 (Operand.tmp 55) (Operand.tmp 54), type := 0, pos := "outright.go:305", after := #[{ on := 7, ground := Ground.data }, { on := 6, ground := Ground.data }, { on := 6, ground := Ground.chain }, { on := 0, ground := Ground.phase }, { on := 1, ground := Ground.phase }, { on := 2, ground := Ground.phase }, { on := 3, ground := Ground.phase }, { on := 4, ground := Ground.phase }, { on := 5, ground := Ground.phase }, { on := 6, ground := Ground.phase }], guard := none }) rfl (fun K hK => ?_) AllReadyH.nil)
          go_simp
          have hown3 : w2.ownsRow (wX.heap.size + 1) 71 4 (.slice (some ⟨g2, 0, none⟩) (moreL l r gw).length p2) (moreL l r gw).length (flatA (moreL l r gw)) := by
            rw [moreL_len]; unfold moreL; rw [flatA_snoc]; exact hown2
          obtain ⟨g3, c3, he3, hg3, hrow⟩ := AngRow.of_own (by rw [moreL_len]; omega) hown3
          obtain ⟨rfl, rfl⟩ : g2 = g3 ∧ p2 = c3 := by simpa using he3
          have hxs := HSZ.out
          have hB2 : Below w.heap.size w w2 := ⟨hgrow2.os.trans (hgrow1.os.trans HX.out.os), hgrow2.tape.trans (hgrow1.tape.trans HX.out.tape), hgrow2.output.trans (hgrow1.output.trans HX.out.output), by have h1 := HX.out.size; have h2 := hgrow2.size; have h3 := hgrow1.size; simp at h2 h3; omega, fun j hj => (hk2 j (Nat.lt_of_lt_of_le hj HX.out.size)).trans (HX.out.block j hj)⟩
          have hrow2 := hrow.of_block (Below.heap_setCell w2 ⟨Bx, 0, none⟩ (.slice (some ⟨g2, 0, none⟩) (l.length + 1) p2) _ (by show g2 ≠ Bx; omega))
          have hI2 := (Below.heap_setCell w2 ⟨Bx, 0, none⟩ (.slice (some ⟨g2, 0, none⟩) (l.length + 1) p2) Bi (by show Bi ≠ Bx; omega)).trans ((hk2 Bi (by omega)).trans M0.out)
          have hA2 := (Below.heap_setCell w2 ⟨Bx, 0, none⟩ (.slice (some ⟨g2, 0, none⟩) (l.length + 1) p2) Ba (by show Ba ≠ Bx; omega)).trans ((hk2 Ba (by omega)).trans M1.out)
          have hX2 := set_one ((hk2 Bx (by omega)).trans M2.out) (.slice (some ⟨g2, 0, none⟩) (l.length + 1) p2)
          have hB3 : Below w.heap.size w (w2.setCell ⟨Bx, 0, none⟩ (.slice (some ⟨g2, 0, none⟩) (l.length + 1) p2)) := hB2.setCell (by simp; omega) _
          refine hK.out _ _ (⟨by simp [World.cell?, hI2], by simp [World.cell?, hA2], by simp [World.cell?, hA2], by simp [World.cell?, hA2], by simp [World.cell?, hA2]⟩) (fun hS5 => ?_)
          clear hS4 hK K
          try simp only [Act.put, List.setIfInBounds_toArray, List.set_cons_zero, List.set_cons_succ, Array.toArray_toList]
          refine wpAnyH_done (by kernel_rfl) ?_ _
          clear hS5
          generalize w2.setCell ⟨Bx, 0, none⟩ (.slice (some ⟨g2, 0, none⟩) (l.length + 1) p2) = w30 at hrow2 hI2 hA2 hX2 hB3 ⊢
          have HB30 := Lib.hid hB3
          have NBi30 := Lib.hid hI2
          have NBa30 := Lib.hid hA2
          have NBx30 := Lib.hid hX2
          have FRx30 := Lib.hid hrow2
          clear hB3 hI2 hA2 hX2 hrow2 hB2 hrow hown3 hown2 hown1 hgrow1 hgrow2 hk1 hk2 k0 k1 hat1 hat2 hlt1 hlt2 hg3 he3 hb1 hxs x0 a0 a1 a2 a3 M0 M1 M2 HX HSZ
          have cBi0_30 : w30.cell? ⟨Bi, 0, none⟩ = some (.slice (some ⟨b, o, none⟩) l.length cap) := by simp [World.cell?, NBi30.out]
          have cBi1_30 : w30.cell? ⟨Bi, 1, none⟩ = some (.int .i64 T) := by simp [World.cell?, NBi30.out]
          have cBi2_30 : w30.cell? ⟨Bi, 2, none⟩ = some (.int .i64 C) := by simp [World.cell?, NBi30.out]
          have cBa0_30 : w30.cell? ⟨Ba, 0, none⟩ = some (.int .i64 (-1)) := by simp [World.cell?, NBa30.out]
          have cBa1_30 : w30.cell? ⟨Ba, 1, none⟩ = some (.int .i64 (-1)) := by simp [World.cell?, NBa30.out]
          have cBa2_30 : w30.cell? ⟨Ba, 2, none⟩ = some (.int .i64 r) := by simp [World.cell?, NBa30.out]
          have cBa3_30 : w30.cell? ⟨Ba, 3, none⟩ = some (.int .i64 gw) := by simp [World.cell?, NBa30.out]
          have cBx0_30 : w30.cell? ⟨Bx, 0, none⟩ = some (.slice (some ⟨g2, 0, none⟩) (l.length + 1) p2) := by simp [World.cell?, NBx30.out]
          have cBx1_30 : w30.cell? ⟨Bx, 1, none⟩ = some (.int .i64 T) := by simp [World.cell?, NBx30.out]
          have cBx2_30 : w30.cell? ⟨Bx, 2, none⟩ = some (.int .i64 C) := by simp [World.cell?, NBx30.out]
          have hok2 := moreL_ok (r := r) (g := gw) HO.out (by omega) r0 r1 g0 gw3
          have hle := more_least HO.out hok2
          have has : askedL (moreL l r gw) T C e = 0 := by unfold askedL; rw [if_neg (by rw [faultL_zero.2 hok2]; simp), if_pos ⟨e0, e1⟩]
          have hs1 := sureL_ans has
          rw [moreL_canE] at hs1
          obtain ⟨S, hS⟩ : ∃ S, sureL (moreL l r gw) T C e = S := ⟨_, rfl⟩
          have HS := Lib.hid hS
          rw [hS] at hs1
          have H1 := Lib.hid hs1
          have HLE := Lib.hid hle
          have HML := Lib.hid (moreL_len (l := l) (r := r) (g := gw))
          clear hok2 hle has hs1 hS
          go_wp2_with fail
          refine (net_any _ cap T C l _ (HA.out.keep HB30.out (Nat.le_refl _)) (by omega)).mono ?_
          rintro e w31 ⟨Aq1, cq1, rfl, hq, hqn, hb⟩
          have HB31 := Lib.hid ((HB30.out).trans (hb.mono (HB30.out).size))
          have NBi31 := Lib.hid ((hb.block Bi (Array.getElem?_eq_some_iff.1 NBi30.out).1).trans NBi30.out)
          have NBa31 := Lib.hid ((hb.block Ba (Array.getElem?_eq_some_iff.1 NBa30.out).1).trans NBa30.out)
          have NBx31 := Lib.hid ((hb.block Bx (Array.getElem?_eq_some_iff.1 NBx30.out).1).trans NBx30.out)
          have FRx31 := Lib.hid ((FRx30.out).keep hb (Nat.le_refl _))
          have FQ31 := Lib.hid hq
          clear HB30 NBi30 NBa30 NBx30 cBi0_30 cBi1_30 cBi2_30 cBa0_30 cBa1_30 cBa2_30 cBa3_30 cBx0_30 cBx1_30 cBx2_30 FRx30 hq hb hqn
          have cBi0_31 : w31.cell? ⟨Bi, 0, none⟩ = some (.slice (some ⟨b, o, none⟩) l.length cap) := by simp [World.cell?, NBi31.out]
          have cBi1_31 : w31.cell? ⟨Bi, 1, none⟩ = some (.int .i64 T) := by simp [World.cell?, NBi31.out]
          have cBi2_31 : w31.cell? ⟨Bi, 2, none⟩ = some (.int .i64 C) := by simp [World.cell?, NBi31.out]
          have cBa0_31 : w31.cell? ⟨Ba, 0, none⟩ = some (.int .i64 (-1)) := by simp [World.cell?, NBa31.out]
          have cBa1_31 : w31.cell? ⟨Ba, 1, none⟩ = some (.int .i64 (-1)) := by simp [World.cell?, NBa31.out]
          have cBa2_31 : w31.cell? ⟨Ba, 2, none⟩ = some (.int .i64 r) := by simp [World.cell?, NBa31.out]
          have cBa3_31 : w31.cell? ⟨Ba, 3, none⟩ = some (.int .i64 gw) := by simp [World.cell?, NBa31.out]
          have cBx0_31 : w31.cell? ⟨Bx, 0, none⟩ = some (.slice (some ⟨g2, 0, none⟩) (l.length + 1) p2) := by simp [World.cell?, NBx31.out]
          have cBx1_31 : w31.cell? ⟨Bx, 1, none⟩ = some (.int .i64 T) := by simp [World.cell?, NBx31.out]
          have cBx2_31 : w31.cell? ⟨Bx, 2, none⟩ = some (.int .i64 C) := by simp [World.cell?, NBx31.out]
          go_wp2_with fail
          refine (least_any Aq1 l.length cq1 T C l _ (by omega) rfl FQ31.out).mono ?_
          rintro e w32 ⟨rfl, hb⟩
          have HB32 := Lib.hid ((HB31.out).trans (hb.mono (HB31.out).size))
          have NBi32 := Lib.hid ((hb.block Bi (Array.getElem?_eq_some_iff.1 NBi31.out).1).trans NBi31.out)
          have NBa32 := Lib.hid ((hb.block Ba (Array.getElem?_eq_some_iff.1 NBa31.out).1).trans NBa31.out)
          have NBx32 := Lib.hid ((hb.block Bx (Array.getElem?_eq_some_iff.1 NBx31.out).1).trans NBx31.out)
          have FRx32 := Lib.hid ((FRx31.out).keep hb (Nat.le_refl _))
          have FQ32 := Lib.hid ((FQ31.out).keep hb (Nat.le_refl _))
          clear HB31 NBi31 NBa31 NBx31 cBi0_31 cBi1_31 cBi2_31 cBa0_31 cBa1_31 cBa2_31 cBa3_31 cBx0_31 cBx1_31 cBx2_31 FRx31 FQ31 hb 
          have cBi0_32 : w32.cell? ⟨Bi, 0, none⟩ = some (.slice (some ⟨b, o, none⟩) l.length cap) := by simp [World.cell?, NBi32.out]
          have cBi1_32 : w32.cell? ⟨Bi, 1, none⟩ = some (.int .i64 T) := by simp [World.cell?, NBi32.out]
          have cBi2_32 : w32.cell? ⟨Bi, 2, none⟩ = some (.int .i64 C) := by simp [World.cell?, NBi32.out]
          have cBa0_32 : w32.cell? ⟨Ba, 0, none⟩ = some (.int .i64 (-1)) := by simp [World.cell?, NBa32.out]
          have cBa1_32 : w32.cell? ⟨Ba, 1, none⟩ = some (.int .i64 (-1)) := by simp [World.cell?, NBa32.out]
          have cBa2_32 : w32.cell? ⟨Ba, 2, none⟩ = some (.int .i64 r) := by simp [World.cell?, NBa32.out]
          have cBa3_32 : w32.cell? ⟨Ba, 3, none⟩ = some (.int .i64 gw) := by simp [World.cell?, NBa32.out]
          have cBx0_32 : w32.cell? ⟨Bx, 0, none⟩ = some (.slice (some ⟨g2, 0, none⟩) (l.length + 1) p2) := by simp [World.cell?, NBx32.out]
          have cBx1_32 : w32.cell? ⟨Bx, 1, none⟩ = some (.int .i64 T) := by simp [World.cell?, NBx32.out]
          have cBx2_32 : w32.cell? ⟨Bx, 2, none⟩ = some (.int .i64 C) := by simp [World.cell?, NBx32.out]
          clear FQ32
          go_wp2_with fail
          refine (net_row moreL_len (by omega) FRx32.out).mono ?_
          rintro e w33 ⟨Aq2, cq2, rfl, hq, hb⟩
          have HB33 := Lib.hid ((HB32.out).trans (hb.mono (HB32.out).size))
          have NBi33 := Lib.hid ((hb.block Bi (Array.getElem?_eq_some_iff.1 NBi32.out).1).trans NBi32.out)
          have NBa33 := Lib.hid ((hb.block Ba (Array.getElem?_eq_some_iff.1 NBa32.out).1).trans NBa32.out)
          have NBx33 := Lib.hid ((hb.block Bx (Array.getElem?_eq_some_iff.1 NBx32.out).1).trans NBx32.out)
          have FRx33 := Lib.hid ((FRx32.out).keep hb (Nat.le_refl _))
          have FQ33 := Lib.hid hq
          clear HB32 NBi32 NBa32 NBx32 cBi0_32 cBi1_32 cBi2_32 cBa0_32 cBa1_32 cBa2_32 cBa3_32 cBx0_32 cBx1_32 cBx2_32 FRx32 hq hb 
          have cBi0_33 : w33.cell? ⟨Bi, 0, none⟩ = some (.slice (some ⟨b, o, none⟩) l.length cap) := by simp [World.cell?, NBi33.out]
          have cBi1_33 : w33.cell? ⟨Bi, 1, none⟩ = some (.int .i64 T) := by simp [World.cell?, NBi33.out]
          have cBi2_33 : w33.cell? ⟨Bi, 2, none⟩ = some (.int .i64 C) := by simp [World.cell?, NBi33.out]
          have cBa0_33 : w33.cell? ⟨Ba, 0, none⟩ = some (.int .i64 (-1)) := by simp [World.cell?, NBa33.out]
          have cBa1_33 : w33.cell? ⟨Ba, 1, none⟩ = some (.int .i64 (-1)) := by simp [World.cell?, NBa33.out]
          have cBa2_33 : w33.cell? ⟨Ba, 2, none⟩ = some (.int .i64 r) := by simp [World.cell?, NBa33.out]
          have cBa3_33 : w33.cell? ⟨Ba, 3, none⟩ = some (.int .i64 gw) := by simp [World.cell?, NBa33.out]
          have cBx0_33 : w33.cell? ⟨Bx, 0, none⟩ = some (.slice (some ⟨g2, 0, none⟩) (l.length + 1) p2) := by simp [World.cell?, NBx33.out]
          have cBx1_33 : w33.cell? ⟨Bx, 1, none⟩ = some (.int .i64 T) := by simp [World.cell?, NBx33.out]
          have cBx2_33 : w33.cell? ⟨Bx, 2, none⟩ = some (.int .i64 C) := by simp [World.cell?, NBx33.out]
          go_wp2_with fail
          refine (least_any Aq2 (l.length + 1) cq2 T C (moreL l r gw) _ (by omega) moreL_len FQ33.out).mono ?_
          rintro e w34 ⟨rfl, hb⟩; rw [HLE.out.1, HLE.out.2]
          have HB34 := Lib.hid ((HB33.out).trans (hb.mono (HB33.out).size))
          have NBi34 := Lib.hid ((hb.block Bi (Array.getElem?_eq_some_iff.1 NBi33.out).1).trans NBi33.out)
          have NBa34 := Lib.hid ((hb.block Ba (Array.getElem?_eq_some_iff.1 NBa33.out).1).trans NBa33.out)
          have NBx34 := Lib.hid ((hb.block Bx (Array.getElem?_eq_some_iff.1 NBx33.out).1).trans NBx33.out)
          have FRx34 := Lib.hid ((FRx33.out).keep hb (Nat.le_refl _))
          have FQ34 := Lib.hid ((FQ33.out).keep hb (Nat.le_refl _))
          clear HB33 NBi33 NBa33 NBx33 cBi0_33 cBi1_33 cBi2_33 cBa0_33 cBa1_33 cBa2_33 cBa3_33 cBx0_33 cBx1_33 cBx2_33 FRx33 FQ33 hb 
          have cBi0_34 : w34.cell? ⟨Bi, 0, none⟩ = some (.slice (some ⟨b, o, none⟩) l.length cap) := by simp [World.cell?, NBi34.out]
          have cBi1_34 : w34.cell? ⟨Bi, 1, none⟩ = some (.int .i64 T) := by simp [World.cell?, NBi34.out]
          have cBi2_34 : w34.cell? ⟨Bi, 2, none⟩ = some (.int .i64 C) := by simp [World.cell?, NBi34.out]
          have cBa0_34 : w34.cell? ⟨Ba, 0, none⟩ = some (.int .i64 (-1)) := by simp [World.cell?, NBa34.out]
          have cBa1_34 : w34.cell? ⟨Ba, 1, none⟩ = some (.int .i64 (-1)) := by simp [World.cell?, NBa34.out]
          have cBa2_34 : w34.cell? ⟨Ba, 2, none⟩ = some (.int .i64 r) := by simp [World.cell?, NBa34.out]
          have cBa3_34 : w34.cell? ⟨Ba, 3, none⟩ = some (.int .i64 gw) := by simp [World.cell?, NBa34.out]
          have cBx0_34 : w34.cell? ⟨Bx, 0, none⟩ = some (.slice (some ⟨g2, 0, none⟩) (l.length + 1) p2) := by simp [World.cell?, NBx34.out]
          have cBx1_34 : w34.cell? ⟨Bx, 1, none⟩ = some (.int .i64 T) := by simp [World.cell?, NBx34.out]
          have cBx2_34 : w34.cell? ⟨Bx, 2, none⟩ = some (.int .i64 C) := by simp [World.cell?, NBx34.out]
          clear FQ34
          generalize leastN l T C = N
          generalize leastE l T C = E
          have hnn : (N != N) = false := by simp
          have hee : (E != E) = false := by simp
          have hss : (S != S) = false := by simp
          go_wp2_with fail
          refine (net_row moreL_len (by omega) FRx34.out).mono ?_
          rintro e w35 ⟨Aq3, cq3, rfl, hq, hb⟩
          have HB35 := Lib.hid ((HB34.out).trans (hb.mono (HB34.out).size))
          have NBi35 := Lib.hid ((hb.block Bi (Array.getElem?_eq_some_iff.1 NBi34.out).1).trans NBi34.out)
          have NBa35 := Lib.hid ((hb.block Ba (Array.getElem?_eq_some_iff.1 NBa34.out).1).trans NBa34.out)
          have NBx35 := Lib.hid ((hb.block Bx (Array.getElem?_eq_some_iff.1 NBx34.out).1).trans NBx34.out)
          have FRx35 := Lib.hid ((FRx34.out).keep hb (Nat.le_refl _))
          have FQ35 := Lib.hid hq
          clear HB34 NBi34 NBa34 NBx34 cBi0_34 cBi1_34 cBi2_34 cBa0_34 cBa1_34 cBa2_34 cBa3_34 cBx0_34 cBx1_34 cBx2_34 FRx34 hq hb 
          have cBi0_35 : w35.cell? ⟨Bi, 0, none⟩ = some (.slice (some ⟨b, o, none⟩) l.length cap) := by simp [World.cell?, NBi35.out]
          have cBi1_35 : w35.cell? ⟨Bi, 1, none⟩ = some (.int .i64 T) := by simp [World.cell?, NBi35.out]
          have cBi2_35 : w35.cell? ⟨Bi, 2, none⟩ = some (.int .i64 C) := by simp [World.cell?, NBi35.out]
          have cBa0_35 : w35.cell? ⟨Ba, 0, none⟩ = some (.int .i64 (-1)) := by simp [World.cell?, NBa35.out]
          have cBa1_35 : w35.cell? ⟨Ba, 1, none⟩ = some (.int .i64 (-1)) := by simp [World.cell?, NBa35.out]
          have cBa2_35 : w35.cell? ⟨Ba, 2, none⟩ = some (.int .i64 r) := by simp [World.cell?, NBa35.out]
          have cBa3_35 : w35.cell? ⟨Ba, 3, none⟩ = some (.int .i64 gw) := by simp [World.cell?, NBa35.out]
          have cBx0_35 : w35.cell? ⟨Bx, 0, none⟩ = some (.slice (some ⟨g2, 0, none⟩) (l.length + 1) p2) := by simp [World.cell?, NBx35.out]
          have cBx1_35 : w35.cell? ⟨Bx, 1, none⟩ = some (.int .i64 T) := by simp [World.cell?, NBx35.out]
          have cBx2_35 : w35.cell? ⟨Bx, 2, none⟩ = some (.int .i64 C) := by simp [World.cell?, NBx35.out]
          go_wp2_with fail
          refine (bounds_gen (n := l.length + 1) (cap := cq3) (by omega) moreL_len FQ35.out).mono ?_
          rintro e w36 ⟨Ab, m, cb, bl, bh, rfl, hrg, hbi, hb⟩; rw [HS.out]; have HBI := Lib.hid hbi
          have HB36 := Lib.hid ((HB35.out).trans (hb.mono (HB35.out).size))
          have NBi36 := Lib.hid ((hb.block Bi (Array.getElem?_eq_some_iff.1 NBi35.out).1).trans NBi35.out)
          have NBa36 := Lib.hid ((hb.block Ba (Array.getElem?_eq_some_iff.1 NBa35.out).1).trans NBa35.out)
          have NBx36 := Lib.hid ((hb.block Bx (Array.getElem?_eq_some_iff.1 NBx35.out).1).trans NBx35.out)
          have FRx36 := Lib.hid ((FRx35.out).keep hb (Nat.le_refl _))
          have FQ36 := Lib.hid ((FQ35.out).keep hb (Nat.le_refl _))
          have FG36 := Lib.hid hrg
          clear HB35 NBi35 NBa35 NBx35 cBi0_35 cBi1_35 cBi2_35 cBa0_35 cBa1_35 cBa2_35 cBa3_35 cBx0_35 cBx1_35 cBx2_35 FRx35 FQ35 hrg hb hbi
          have cBi0_36 : w36.cell? ⟨Bi, 0, none⟩ = some (.slice (some ⟨b, o, none⟩) l.length cap) := by simp [World.cell?, NBi36.out]
          have cBi1_36 : w36.cell? ⟨Bi, 1, none⟩ = some (.int .i64 T) := by simp [World.cell?, NBi36.out]
          have cBi2_36 : w36.cell? ⟨Bi, 2, none⟩ = some (.int .i64 C) := by simp [World.cell?, NBi36.out]
          have cBa0_36 : w36.cell? ⟨Ba, 0, none⟩ = some (.int .i64 (-1)) := by simp [World.cell?, NBa36.out]
          have cBa1_36 : w36.cell? ⟨Ba, 1, none⟩ = some (.int .i64 (-1)) := by simp [World.cell?, NBa36.out]
          have cBa2_36 : w36.cell? ⟨Ba, 2, none⟩ = some (.int .i64 r) := by simp [World.cell?, NBa36.out]
          have cBa3_36 : w36.cell? ⟨Ba, 3, none⟩ = some (.int .i64 gw) := by simp [World.cell?, NBa36.out]
          have cBx0_36 : w36.cell? ⟨Bx, 0, none⟩ = some (.slice (some ⟨g2, 0, none⟩) (l.length + 1) p2) := by simp [World.cell?, NBx36.out]
          have cBx1_36 : w36.cell? ⟨Bx, 1, none⟩ = some (.int .i64 T) := by simp [World.cell?, NBx36.out]
          have cBx2_36 : w36.cell? ⟨Bx, 2, none⟩ = some (.int .i64 C) := by simp [World.cell?, NBx36.out]
          clear FQ36
          go_wp2_with fail
          refine (net_row moreL_len (by omega) FRx36.out).mono ?_
          rintro e w37 ⟨Aq4, cq4, rfl, hq, hb⟩
          have HB37 := Lib.hid ((HB36.out).trans (hb.mono (HB36.out).size))
          have NBi37 := Lib.hid ((hb.block Bi (Array.getElem?_eq_some_iff.1 NBi36.out).1).trans NBi36.out)
          have NBa37 := Lib.hid ((hb.block Ba (Array.getElem?_eq_some_iff.1 NBa36.out).1).trans NBa36.out)
          have NBx37 := Lib.hid ((hb.block Bx (Array.getElem?_eq_some_iff.1 NBx36.out).1).trans NBx36.out)
          have FRx37 := Lib.hid ((FRx36.out).keep hb (Nat.le_refl _))
          have FG37 := Lib.hid ((FG36.out).keep hb (Nat.le_refl _))
          have FQ37 := Lib.hid hq
          clear HB36 NBi36 NBa36 NBx36 cBi0_36 cBi1_36 cBi2_36 cBa0_36 cBa1_36 cBa2_36 cBa3_36 cBx0_36 cBx1_36 cBx2_36 FRx36 FG36 hq hb 
          have cBi0_37 : w37.cell? ⟨Bi, 0, none⟩ = some (.slice (some ⟨b, o, none⟩) l.length cap) := by simp [World.cell?, NBi37.out]
          have cBi1_37 : w37.cell? ⟨Bi, 1, none⟩ = some (.int .i64 T) := by simp [World.cell?, NBi37.out]
          have cBi2_37 : w37.cell? ⟨Bi, 2, none⟩ = some (.int .i64 C) := by simp [World.cell?, NBi37.out]
          have cBa0_37 : w37.cell? ⟨Ba, 0, none⟩ = some (.int .i64 (-1)) := by simp [World.cell?, NBa37.out]
          have cBa1_37 : w37.cell? ⟨Ba, 1, none⟩ = some (.int .i64 (-1)) := by simp [World.cell?, NBa37.out]
          have cBa2_37 : w37.cell? ⟨Ba, 2, none⟩ = some (.int .i64 r) := by simp [World.cell?, NBa37.out]
          have cBa3_37 : w37.cell? ⟨Ba, 3, none⟩ = some (.int .i64 gw) := by simp [World.cell?, NBa37.out]
          have cBx0_37 : w37.cell? ⟨Bx, 0, none⟩ = some (.slice (some ⟨g2, 0, none⟩) (l.length + 1) p2) := by simp [World.cell?, NBx37.out]
          have cBx1_37 : w37.cell? ⟨Bx, 1, none⟩ = some (.int .i64 T) := by simp [World.cell?, NBx37.out]
          have cBx2_37 : w37.cell? ⟨Bx, 2, none⟩ = some (.int .i64 C) := by simp [World.cell?, NBx37.out]
          rcases (by have := H1.out; rw [this]; split <;> simp : S = 9 ∨ S = 0) with hS | hS
          · subst hS
            clear H1 hss
            go_wp2_with fail
            refine (control_gen (n := l.length + 1) (cap := cq4) (by omega) moreL_len FQ37.out).mono ?_
            rintro e w38 ⟨Ac, cc, D, rfl, hci, hcv, hb⟩; rw [HS.out]
            have HB38 := Lib.hid ((HB37.out).trans (hb.mono (HB37.out).size))
            have NBi38 := Lib.hid ((hb.block Bi (Array.getElem?_eq_some_iff.1 NBi37.out).1).trans NBi37.out)
            have NBa38 := Lib.hid ((hb.block Ba (Array.getElem?_eq_some_iff.1 NBa37.out).1).trans NBa37.out)
            have NBx38 := Lib.hid ((hb.block Bx (Array.getElem?_eq_some_iff.1 NBx37.out).1).trans NBx37.out)
            have FRx38 := Lib.hid ((FRx37.out).keep hb (Nat.le_refl _))
            have FG38 := Lib.hid ((FG37.out).keep hb (Nat.le_refl _))
            have FQ38 := Lib.hid ((FQ37.out).keep hb (Nat.le_refl _))
            clear HB37 NBi37 NBa37 NBx37 cBi0_37 cBi1_37 cBi2_37 cBa0_37 cBa1_37 cBa2_37 cBa3_37 cBx0_37 cBx1_37 cBx2_37 FRx37 FG37 FQ37 hb hcv hci
            have cBi0_38 : w38.cell? ⟨Bi, 0, none⟩ = some (.slice (some ⟨b, o, none⟩) l.length cap) := by simp [World.cell?, NBi38.out]
            have cBi1_38 : w38.cell? ⟨Bi, 1, none⟩ = some (.int .i64 T) := by simp [World.cell?, NBi38.out]
            have cBi2_38 : w38.cell? ⟨Bi, 2, none⟩ = some (.int .i64 C) := by simp [World.cell?, NBi38.out]
            have cBa0_38 : w38.cell? ⟨Ba, 0, none⟩ = some (.int .i64 (-1)) := by simp [World.cell?, NBa38.out]
            have cBa1_38 : w38.cell? ⟨Ba, 1, none⟩ = some (.int .i64 (-1)) := by simp [World.cell?, NBa38.out]
            have cBa2_38 : w38.cell? ⟨Ba, 2, none⟩ = some (.int .i64 r) := by simp [World.cell?, NBa38.out]
            have cBa3_38 : w38.cell? ⟨Ba, 3, none⟩ = some (.int .i64 gw) := by simp [World.cell?, NBa38.out]
            have cBx0_38 : w38.cell? ⟨Bx, 0, none⟩ = some (.slice (some ⟨g2, 0, none⟩) (l.length + 1) p2) := by simp [World.cell?, NBx38.out]
            have cBx1_38 : w38.cell? ⟨Bx, 1, none⟩ = some (.int .i64 T) := by simp [World.cell?, NBx38.out]
            have cBx2_38 : w38.cell? ⟨Bx, 2, none⟩ = some (.int .i64 C) := by simp [World.cell?, NBx38.out]
            clear FQ38
            go_wp2_with fail
            refine (awake_any _).mono ?_
            rintro e w39 ⟨rfl, hb⟩
            have HB39 := Lib.hid ((HB38.out).trans (hb.mono (HB38.out).size))
            have NBi39 := Lib.hid ((hb.block Bi (Array.getElem?_eq_some_iff.1 NBi38.out).1).trans NBi38.out)
            have NBa39 := Lib.hid ((hb.block Ba (Array.getElem?_eq_some_iff.1 NBa38.out).1).trans NBa38.out)
            have NBx39 := Lib.hid ((hb.block Bx (Array.getElem?_eq_some_iff.1 NBx38.out).1).trans NBx38.out)
            have FRx39 := Lib.hid ((FRx38.out).keep hb (Nat.le_refl _))
            have FG39 := Lib.hid ((FG38.out).keep hb (Nat.le_refl _))
            clear HB38 NBi38 NBa38 NBx38 cBi0_38 cBi1_38 cBi2_38 cBa0_38 cBa1_38 cBa2_38 cBa3_38 cBx0_38 cBx1_38 cBx2_38 FRx38 FG38 hb 
            have cBi0_39 : w39.cell? ⟨Bi, 0, none⟩ = some (.slice (some ⟨b, o, none⟩) l.length cap) := by simp [World.cell?, NBi39.out]
            have cBi1_39 : w39.cell? ⟨Bi, 1, none⟩ = some (.int .i64 T) := by simp [World.cell?, NBi39.out]
            have cBi2_39 : w39.cell? ⟨Bi, 2, none⟩ = some (.int .i64 C) := by simp [World.cell?, NBi39.out]
            have cBa0_39 : w39.cell? ⟨Ba, 0, none⟩ = some (.int .i64 (-1)) := by simp [World.cell?, NBa39.out]
            have cBa1_39 : w39.cell? ⟨Ba, 1, none⟩ = some (.int .i64 (-1)) := by simp [World.cell?, NBa39.out]
            have cBa2_39 : w39.cell? ⟨Ba, 2, none⟩ = some (.int .i64 r) := by simp [World.cell?, NBa39.out]
            have cBa3_39 : w39.cell? ⟨Ba, 3, none⟩ = some (.int .i64 gw) := by simp [World.cell?, NBa39.out]
            have cBx0_39 : w39.cell? ⟨Bx, 0, none⟩ = some (.slice (some ⟨g2, 0, none⟩) (l.length + 1) p2) := by simp [World.cell?, NBx39.out]
            have cBx1_39 : w39.cell? ⟨Bx, 1, none⟩ = some (.int .i64 T) := by simp [World.cell?, NBx39.out]
            have cBx2_39 : w39.cell? ⟨Bx, 2, none⟩ = some (.int .i64 C) := by simp [World.cell?, NBx39.out]
            go_wp2_with fail
            go_ret
            exact ⟨rfl, HB39.out⟩
          · have hcan : canE l T C e [] = true := by
              have := H1.out
              rw [hS] at this
              cases q : canE l T C e [] with
              | true => rfl
              | false => rw [q] at this; simp at this
            subst hS
            clear H1 hss
            obtain ⟨rfl, hbe⟩ : m = l.length + 1 ∧ BoundsE (moreL l r gw) T C e (moreL l r gw).length bl bh := by
              rcases HBI.out with ⟨h, _⟩ | ⟨_, h1, h2⟩
              · exact absurd HS.out h
              · exact ⟨h1.trans moreL_len, h2⟩
            obtain ⟨hbl, hbh⟩ := more_bounds hcan hbe
            have hins := more_inside (r := r) (g := gw) e hcan
            have HINS := Lib.hid hins
            have HBL := Lib.hid hbl
            have HBH := Lib.hid hbh
            clear hcan hbe hbl hbh hins HBI
            go_wp2_with fail
            refine (control_gen (n := l.length + 1) (cap := cq4) (by omega) moreL_len FQ37.out).mono ?_
            rintro e w38 ⟨Ac, cc, D, rfl, hci, hcv, hb⟩; rw [HS.out]; obtain rfl : D = ctlL (moreL l r gw) T C e (moreL l r gw).length := (by rcases hcv with ⟨h, _⟩ | ⟨_, h⟩; exact absurd HS.out h; exact h)
            have HB38 := Lib.hid ((HB37.out).trans (hb.mono (HB37.out).size))
            have NBi38 := Lib.hid ((hb.block Bi (Array.getElem?_eq_some_iff.1 NBi37.out).1).trans NBi37.out)
            have NBa38 := Lib.hid ((hb.block Ba (Array.getElem?_eq_some_iff.1 NBa37.out).1).trans NBa37.out)
            have NBx38 := Lib.hid ((hb.block Bx (Array.getElem?_eq_some_iff.1 NBx37.out).1).trans NBx37.out)
            have FRx38 := Lib.hid ((FRx37.out).keep hb (Nat.le_refl _))
            have FG38 := Lib.hid ((FG37.out).keep hb (Nat.le_refl _))
            have FQ38 := Lib.hid ((FQ37.out).keep hb (Nat.le_refl _))
            have FC38 := Lib.hid hci
            clear HB37 NBi37 NBa37 NBx37 cBi0_37 cBi1_37 cBi2_37 cBa0_37 cBa1_37 cBa2_37 cBa3_37 cBx0_37 cBx1_37 cBx2_37 FRx37 FG37 FQ37 hci hb hcv
            have cBi0_38 : w38.cell? ⟨Bi, 0, none⟩ = some (.slice (some ⟨b, o, none⟩) l.length cap) := by simp [World.cell?, NBi38.out]
            have cBi1_38 : w38.cell? ⟨Bi, 1, none⟩ = some (.int .i64 T) := by simp [World.cell?, NBi38.out]
            have cBi2_38 : w38.cell? ⟨Bi, 2, none⟩ = some (.int .i64 C) := by simp [World.cell?, NBi38.out]
            have cBa0_38 : w38.cell? ⟨Ba, 0, none⟩ = some (.int .i64 (-1)) := by simp [World.cell?, NBa38.out]
            have cBa1_38 : w38.cell? ⟨Ba, 1, none⟩ = some (.int .i64 (-1)) := by simp [World.cell?, NBa38.out]
            have cBa2_38 : w38.cell? ⟨Ba, 2, none⟩ = some (.int .i64 r) := by simp [World.cell?, NBa38.out]
            have cBa3_38 : w38.cell? ⟨Ba, 3, none⟩ = some (.int .i64 gw) := by simp [World.cell?, NBa38.out]
            have cBx0_38 : w38.cell? ⟨Bx, 0, none⟩ = some (.slice (some ⟨g2, 0, none⟩) (l.length + 1) p2) := by simp [World.cell?, NBx38.out]
            have cBx1_38 : w38.cell? ⟨Bx, 1, none⟩ = some (.int .i64 T) := by simp [World.cell?, NBx38.out]
            have cBx2_38 : w38.cell? ⟨Bx, 2, none⟩ = some (.int .i64 C) := by simp [World.cell?, NBx38.out]
            clear FQ38
            obtain ⟨b1, o1, rfl, g10, g11⟩ := (FG38.out).at3 (k := l.length) (by omega)
            rw [HBL.out] at g10
            rw [HBH.out] at g11
            obtain ⟨eg, heg⟩ : ∃ q, e * gw = q := ⟨_, rfl⟩
            rw [heg] at g10 g11
            have hm0 : 0 ≤ eg := by rw [← heg]; exact Int.mul_nonneg e0 (by omega)
            have hm1 : eg ≤ 120 := by rw [← heg]; exact Int.le_trans (Int.mul_le_mul_of_nonneg_right e1 (by omega)) (by omega)
            obtain ⟨p, hp⟩ : ∃ q, max 0 (r - eg) = q := ⟨_, rfl⟩
            obtain ⟨q, hq⟩ : ∃ q, min 40 (r + eg) = q := ⟨_, rfl⟩
            rw [hp] at g10
            rw [hq] at g11
            have hcl : (ctlL (moreL l r gw) T C e (moreL l r gw).length).length ≤ 1000000 := Nat.le_trans (ctlL_length _ _ _ _ _) (by rw [HML.out]; omega)
            have HCL := Lib.hid hcl
            clear hcl
            have hle1 : (((l.length + 1 : Nat) : Int) == (l.length : Int) + 1) = true := by simp
            have j1 : (0 : Int) ≤ (l.length : Int) := by omega
            have j2 : (l.length : Int) < ((l.length + 1 : Nat) : Int) := by omega
            have hmx : (if eg < r then r - eg else 0) = p := by rw [← hp]; split <;> omega
            have hmn : (if r + eg < 40 then r + eg else 40) = q := by rw [← hq]; split <;> omega
            have j3 : (l.length : Int) < (l.length : Int) + 1 := by omega
            have v1 : IntKind.i64.wrap ((l.length : Int) + 1) = (l.length : Int) + 1 := IntWalk.i64_in _ (by omega)
            have v2 : IntKind.i64.wrap eg = eg := IntWalk.i64_in _ (by omega)
            have v3 : IntKind.i64.wrap (r - eg) = r - eg := IntWalk.i64_in _ (by omega)
            have v4 : IntKind.i64.wrap (r + eg) = r + eg := IntWalk.i64_in _ (by omega)
            clear hp hq
            go_wp2_with fail
            refine wp_region_held_drew (S := fun X => X.cell? ⟨Ba, 2, none⟩ = some (.int .i64 r) ∧ X.cell? ⟨Ba, 3, none⟩ = some (.int .i64 gw) ∧ X.cell? ⟨b1, o1 + l.length * 2, none⟩ = some (.int .i64 p) ∧ X.cell? ⟨b1, o1 + l.length * 2 + 1, none⟩ = some (.int .i64 q)) (by kernel_rfl) (⟨cBa2_38, cBa3_38, g10, g11⟩) (fun hS0 => ?_)
            refine wpAnyH_take (i := 0) (oi := { dst := some 105, op := Op.move (Operand.tmp 16), type := 52, pos := "outright.go:317", after := #[], guard := none }) (v := ?_) rfl (by kernel_rfl) (by kernel_rfl) (by kernel_rfl) (fun _ _ _ h => h) (Or.inl ⟨by rfl, ?_⟩) hS0 ?_
            rotate_left
            · intro X hX
              obtain ⟨x0, x1, x2, x3⟩ := hX
              go_simp
              try with_reducible rfl
            simp only [Act.put, List.setIfInBounds_toArray, List.set_cons_zero, List.set_cons_succ, Array.toArray_toList]
            refine wpAnyH_take (i := 1) (oi := { dst := some 106, op := Op.call { callee := Callee.builtin Builtin.len, args := #[Operand.tmp 105], argTypes := #[52] }, type := 3, pos := "outright.go:317", after := #[{ on := 0, ground := Ground.data }], guard := none }) (v := ?_) rfl (by kernel_rfl) (by kernel_rfl) (by kernel_rfl) (fun _ _ _ h => h) (Or.inl ⟨by rfl, ?_⟩) hS0 ?_
            rotate_left
            · intro X hX
              obtain ⟨x0, x1, x2, x3⟩ := hX
              go_simp
              try with_reducible rfl
            simp only [Act.put, List.setIfInBounds_toArray, List.set_cons_zero, List.set_cons_succ, Array.toArray_toList]
            refine wpAnyH_take (i := 2) (oi := { dst := some 107, op := Op.move (Operand.tmp 20), type := 3, pos := "outright.go:317", after := #[], guard := none }) (v := ?_) rfl (by kernel_rfl) (by kernel_rfl) (by kernel_rfl) (fun _ _ _ h => h) (Or.inl ⟨by rfl, ?_⟩) hS0 ?_
            rotate_left
            · intro X hX
              obtain ⟨x0, x1, x2, x3⟩ := hX
              go_simp
              try with_reducible rfl
            simp only [Act.put, List.setIfInBounds_toArray, List.set_cons_zero, List.set_cons_succ, Array.toArray_toList]
            refine wpAnyH_take (i := 3) (oi := { dst := some 108, op := Op.binOp BinOp.add 3 (Operand.tmp 107) (Operand.const (Value.int IntKind.i64 1)) 3, type := 3, pos := "outright.go:317", after := #[{ on := 2, ground := Ground.data }], guard := none }) (v := ?_) rfl (by kernel_rfl) (by kernel_rfl) (by kernel_rfl) (fun _ _ _ h => h) (Or.inl ⟨by rfl, ?_⟩) hS0 ?_
            rotate_left
            · intro X hX
              obtain ⟨x0, x1, x2, x3⟩ := hX
              go_simp
              try with_reducible rfl
            simp only [Act.put, List.setIfInBounds_toArray, List.set_cons_zero, List.set_cons_succ, Array.toArray_toList]
            refine wpAnyH_take (i := 4) (oi := { dst := some 109, op := Op.binOp BinOp.eql 3 (Operand.tmp 106) (Operand.tmp 108) 3, type := 4, pos := "outright.go:317", after := #[{ on := 1, ground := Ground.data }, { on := 3, ground := Ground.data }], guard := none }) (v := ?_) rfl (by kernel_rfl) (by kernel_rfl) (by kernel_rfl) (fun _ _ _ h => h) (Or.inl ⟨by rfl, ?_⟩) hS0 ?_
            rotate_left
            · intro X hX
              obtain ⟨x0, x1, x2, x3⟩ := hX
              go_simp
              try with_reducible rfl
            simp only [Act.put, List.setIfInBounds_toArray, List.set_cons_zero, List.set_cons_succ, Array.toArray_toList]
            refine wpAnyH_take (i := 5) (oi := { dst := some 110, op := Op.move (Operand.tmp 109), type := 4, pos := "outright.go:317", after := #[{ on := 4, ground := Ground.data }], guard := none }) (v := ?_) rfl (by kernel_rfl) (by kernel_rfl) (by kernel_rfl) (fun _ _ _ h => h) (Or.inl ⟨by rfl, ?_⟩) hS0 ?_
            rotate_left
            · intro X hX
              obtain ⟨x0, x1, x2, x3⟩ := hX
              go_simp
              try with_reducible rfl
            simp only [Act.put, List.setIfInBounds_toArray, List.set_cons_zero, List.set_cons_succ, Array.toArray_toList]
            refine wpAnyH_take (i := 6) (oi := { dst := some 111, op := Op.move (Operand.tmp 16), type := 52, pos := "outright.go:317", after := #[{ on := 5, ground := Ground.guard }], guard := some (5, true) }) (v := ?_) rfl (by kernel_rfl) (by kernel_rfl) (by kernel_rfl) (fun _ _ _ h => h) (Or.inl ⟨by rfl, ?_⟩) hS0 ?_
            rotate_left
            · intro X hX
              obtain ⟨x0, x1, x2, x3⟩ := hX
              go_simp
              try with_reducible rfl
            simp only [Act.put, List.setIfInBounds_toArray, List.set_cons_zero, List.set_cons_succ, Array.toArray_toList]
            refine wpAnyH_take (i := 7) (oi := { dst := some 112, op := Op.move (Operand.tmp 20), type := 3, pos := "outright.go:317", after := #[{ on := 5, ground := Ground.guard }], guard := some (5, true) }) (v := ?_) rfl (by kernel_rfl) (by kernel_rfl) (by kernel_rfl) (fun _ _ _ h => h) (Or.inl ⟨by rfl, ?_⟩) hS0 ?_
            rotate_left
            · intro X hX
              obtain ⟨x0, x1, x2, x3⟩ := hX
              go_simp
              try with_reducible rfl
            simp only [Act.put, List.setIfInBounds_toArray, List.set_cons_zero, List.set_cons_succ, Array.toArray_toList]
            refine wpAnyH_take (i := 8) (oi := { dst := some 113, op := Op.indexAddr 52 (Operand.tmp 111) (Operand.tmp 112), type := 0, pos := "outright.go:317", after := #[{ on := 6, ground := Ground.data }, { on := 7, ground := Ground.data }, { on := 5, ground := Ground.guard }], guard := some (5, true) }) (v := ?_) rfl (by kernel_rfl) (by kernel_rfl) (by kernel_rfl) (fun _ _ _ h => h) (Or.inl ⟨by rfl, ?_⟩) hS0 ?_
            rotate_left
            · intro X hX
              obtain ⟨x0, x1, x2, x3⟩ := hX
              go_simp
              try with_reducible rfl
            simp only [Act.put, List.setIfInBounds_toArray, List.set_cons_zero, List.set_cons_succ, Array.toArray_toList]
            refine wpAnyH_take (i := 9) (oi := { dst := some 114, op := Op.fieldAddr 58 (Operand.tmp 113) 0, type := 0, pos := "outright.go:317", after := #[{ on := 8, ground := Ground.data }, { on := 5, ground := Ground.guard }], guard := some (5, true) }) (v := ?_) rfl (by kernel_rfl) (by kernel_rfl) (by kernel_rfl) (fun _ _ _ h => h) (Or.inl ⟨by rfl, ?_⟩) hS0 ?_
            rotate_left
            · intro X hX
              obtain ⟨x0, x1, x2, x3⟩ := hX
              go_simp
              try with_reducible rfl
            simp only [Act.put, List.setIfInBounds_toArray, List.set_cons_zero, List.set_cons_succ, Array.toArray_toList]
            refine wpAnyH_take (i := 10) (oi := { dst := some 115, op := Op.load 3 (Operand.tmp 114), type := 3, pos := "outright.go:317", after := #[{ on := 9, ground := Ground.data }, { on := 5, ground := Ground.guard }], guard := some (5, true) }) (v := ?_) rfl (by kernel_rfl) (by kernel_rfl) (by kernel_rfl) (fun _ _ _ h => h) (Or.inl ⟨by rfl, ?_⟩) hS0 ?_
            rotate_left
            · intro X hX
              obtain ⟨x0, x1, x2, x3⟩ := hX
              go_simp
              try with_reducible rfl
            simp only [Act.put, List.setIfInBounds_toArray, List.set_cons_zero, List.set_cons_succ, Array.toArray_toList]
            refine wpAnyH_take (i := 11) (oi := { dst := some 116, op := Op.fieldAddr 71 (Operand.tmp 10) 2, type := 0, pos := "outright.go:317", after := #[{ on := 5, ground := Ground.guard }], guard := some (5, true) }) (v := ?_) rfl (by kernel_rfl) (by kernel_rfl) (by kernel_rfl) (fun _ _ _ h => h) (Or.inl ⟨by rfl, ?_⟩) hS0 ?_
            rotate_left
            · intro X hX
              obtain ⟨x0, x1, x2, x3⟩ := hX
              go_simp
              try with_reducible rfl
            simp only [Act.put, List.setIfInBounds_toArray, List.set_cons_zero, List.set_cons_succ, Array.toArray_toList]
            refine wpAnyH_take (i := 12) (oi := { dst := some 117, op := Op.load 3 (Operand.tmp 116), type := 3, pos := "outright.go:317", after := #[{ on := 11, ground := Ground.data }, { on := 5, ground := Ground.guard }], guard := some (5, true) }) (v := ?_) rfl (by kernel_rfl) (by kernel_rfl) (by kernel_rfl) (fun _ _ _ h => h) (Or.inl ⟨by rfl, ?_⟩) hS0 ?_
            rotate_left
            · intro X hX
              obtain ⟨x0, x1, x2, x3⟩ := hX
              go_simp
              try with_reducible rfl
            simp only [Act.put, List.setIfInBounds_toArray, List.set_cons_zero, List.set_cons_succ, Array.toArray_toList]
            refine wpAnyH_take (i := 13) (oi := { dst := some 118, op := Op.move (Operand.tmp 9), type := 3, pos := "outright.go:317", after := #[{ on := 5, ground := Ground.guard }], guard := some (5, true) }) (v := ?_) rfl (by kernel_rfl) (by kernel_rfl) (by kernel_rfl) (fun _ _ _ h => h) (Or.inl ⟨by rfl, ?_⟩) hS0 ?_
            rotate_left
            · intro X hX
              obtain ⟨x0, x1, x2, x3⟩ := hX
              go_simp
              try with_reducible rfl
            simp only [Act.put, List.setIfInBounds_toArray, List.set_cons_zero, List.set_cons_succ, Array.toArray_toList]
            refine wpAnyH_take (i := 14) (oi := { dst := some 119, op := Op.fieldAddr 71 (Operand.tmp 10) 3, type := 0, pos := "outright.go:317", after := #[{ on := 5, ground := Ground.guard }], guard := some (5, true) }) (v := ?_) rfl (by kernel_rfl) (by kernel_rfl) (by kernel_rfl) (fun _ _ _ h => h) (Or.inl ⟨by rfl, ?_⟩) hS0 ?_
            rotate_left
            · intro X hX
              obtain ⟨x0, x1, x2, x3⟩ := hX
              go_simp
              try with_reducible rfl
            simp only [Act.put, List.setIfInBounds_toArray, List.set_cons_zero, List.set_cons_succ, Array.toArray_toList]
            refine wpAnyH_take (i := 15) (oi := { dst := some 120, op := Op.load 3 (Operand.tmp 119), type := 3, pos := "outright.go:317", after := #[{ on := 14, ground := Ground.data }, { on := 5, ground := Ground.guard }], guard := some (5, true) }) (v := ?_) rfl (by kernel_rfl) (by kernel_rfl) (by kernel_rfl) (fun _ _ _ h => h) (Or.inl ⟨by rfl, ?_⟩) hS0 ?_
            rotate_left
            · intro X hX
              obtain ⟨x0, x1, x2, x3⟩ := hX
              go_simp
              try with_reducible rfl
            simp only [Act.put, List.setIfInBounds_toArray, List.set_cons_zero, List.set_cons_succ, Array.toArray_toList]
            refine wpAnyH_take (i := 16) (oi := { dst := some 121, op := Op.binOp BinOp.mul 3 (Operand.tmp 118) (Operand.tmp 120) 3, type := 3, pos := "outright.go:317", after := #[{ on := 13, ground := Ground.data }, { on := 15, ground := Ground.data }, { on := 5, ground := Ground.guard }], guard := some (5, true) }) (v := ?_) rfl (by kernel_rfl) (by kernel_rfl) (by kernel_rfl) (fun _ _ _ h => h) (Or.inl ⟨by rfl, ?_⟩) hS0 ?_
            rotate_left
            · intro X hX
              obtain ⟨x0, x1, x2, x3⟩ := hX
              go_simp
              try with_reducible rfl
            simp only [Act.put, List.setIfInBounds_toArray, List.set_cons_zero, List.set_cons_succ, Array.toArray_toList]
            refine wpAnyH_take (i := 17) (oi := { dst := some 122, op := Op.binOp BinOp.sub 3 (Operand.tmp 117) (Operand.tmp 121) 3, type := 3, pos := "outright.go:317", after := #[{ on := 12, ground := Ground.data }, { on := 16, ground := Ground.data }, { on := 5, ground := Ground.guard }], guard := some (5, true) }) (v := ?_) rfl (by kernel_rfl) (by kernel_rfl) (by kernel_rfl) (fun _ _ _ h => h) (Or.inl ⟨by rfl, ?_⟩) hS0 ?_
            rotate_left
            · intro X hX
              obtain ⟨x0, x1, x2, x3⟩ := hX
              go_simp
              try with_reducible rfl
            simp only [Act.put, List.setIfInBounds_toArray, List.set_cons_zero, List.set_cons_succ, Array.toArray_toList]
            refine wpAnyH_take (i := 18) (oi := { dst := some 123, op := Op.call { callee := Callee.builtin Builtin.max, args := #[Operand.const (Value.int IntKind.i64 0), Operand.tmp 122], argTypes := #[3, 3] }, type := 3, pos := "outright.go:317", after := #[{ on := 17, ground := Ground.data }, { on := 5, ground := Ground.guard }], guard := some (5, true) }) (v := ?_) rfl (by kernel_rfl) (by kernel_rfl) (by kernel_rfl) (fun _ _ _ h => h) (Or.inl ⟨by rfl, ?_⟩) hS0 ?_
            rotate_left
            · intro X hX
              obtain ⟨x0, x1, x2, x3⟩ := hX
              go_simp
              try with_reducible rfl
            simp only [Act.put, List.setIfInBounds_toArray, List.set_cons_zero, List.set_cons_succ, Array.toArray_toList]
            refine wpAnyH_take (i := 19) (oi := { dst := some 124, op := Op.binOp BinOp.eql 3 (Operand.tmp 115) (Operand.tmp 123) 3, type := 4, pos := "outright.go:317", after := #[{ on := 10, ground := Ground.data }, { on := 18, ground := Ground.data }, { on := 5, ground := Ground.guard }], guard := some (5, true) }) (v := ?_) rfl (by kernel_rfl) (by kernel_rfl) (by kernel_rfl) (fun _ _ _ h => h) (Or.inl ⟨by rfl, ?_⟩) hS0 ?_
            rotate_left
            · intro X hX
              obtain ⟨x0, x1, x2, x3⟩ := hX
              go_simp
              try with_reducible rfl
            simp only [Act.put, List.setIfInBounds_toArray, List.set_cons_zero, List.set_cons_succ, Array.toArray_toList]
            refine wpAnyH_take (i := 20) (oi := { dst := some 125, op := Op.pick (Operand.tmp 110) (Operand.tmp 124) (Operand.const (Value.bool false)), type := 4, pos := "outright.go:317", after := #[{ on := 5, ground := Ground.data }, { on := 19, ground := Ground.data }], guard := none }) (v := ?_) rfl (by kernel_rfl) (by kernel_rfl) (by kernel_rfl) (fun _ _ _ h => h) (Or.inl ⟨by rfl, ?_⟩) hS0 ?_
            rotate_left
            · intro X hX
              obtain ⟨x0, x1, x2, x3⟩ := hX
              go_simp
              try with_reducible rfl
            simp only [Act.put, List.setIfInBounds_toArray, List.set_cons_zero, List.set_cons_succ, Array.toArray_toList]
            refine wpAnyH_take (i := 21) (oi := { dst := some 126, op := Op.move (Operand.tmp 125), type := 4, pos := "outright.go:317", after := #[{ on := 20, ground := Ground.data }, { on := 5, ground := Ground.chain }], guard := none }) (v := ?_) rfl (by kernel_rfl) (by kernel_rfl) (by kernel_rfl) (fun _ _ _ h => h) (Or.inl ⟨by rfl, ?_⟩) hS0 ?_
            rotate_left
            · intro X hX
              obtain ⟨x0, x1, x2, x3⟩ := hX
              go_simp
              try with_reducible rfl
            simp only [Act.put, List.setIfInBounds_toArray, List.set_cons_zero, List.set_cons_succ, Array.toArray_toList]
            refine wpAnyH_take (i := 22) (oi := { dst := some 127, op := Op.move (Operand.tmp 16), type := 52, pos := "outright.go:317", after := #[{ on := 21, ground := Ground.guard }], guard := some (21, true) }) (v := ?_) rfl (by kernel_rfl) (by kernel_rfl) (by kernel_rfl) (fun _ _ _ h => h) (Or.inl ⟨by rfl, ?_⟩) hS0 ?_
            rotate_left
            · intro X hX
              obtain ⟨x0, x1, x2, x3⟩ := hX
              go_simp
              try with_reducible rfl
            simp only [Act.put, List.setIfInBounds_toArray, List.set_cons_zero, List.set_cons_succ, Array.toArray_toList]
            refine wpAnyH_take (i := 23) (oi := { dst := some 128, op := Op.move (Operand.tmp 20), type := 3, pos := "outright.go:317", after := #[{ on := 21, ground := Ground.guard }], guard := some (21, true) }) (v := ?_) rfl (by kernel_rfl) (by kernel_rfl) (by kernel_rfl) (fun _ _ _ h => h) (Or.inl ⟨by rfl, ?_⟩) hS0 ?_
            rotate_left
            · intro X hX
              obtain ⟨x0, x1, x2, x3⟩ := hX
              go_simp
              try with_reducible rfl
            simp only [Act.put, List.setIfInBounds_toArray, List.set_cons_zero, List.set_cons_succ, Array.toArray_toList]
            refine wpAnyH_take (i := 24) (oi := { dst := some 129, op := Op.indexAddr 52 (Operand.tmp 127) (Operand.tmp 128), type := 0, pos := "outright.go:317", after := #[{ on := 22, ground := Ground.data }, { on := 23, ground := Ground.data }, { on := 21, ground := Ground.guard }], guard := some (21, true) }) (v := ?_) rfl (by kernel_rfl) (by kernel_rfl) (by kernel_rfl) (fun _ _ _ h => h) (Or.inl ⟨by rfl, ?_⟩) hS0 ?_
            rotate_left
            · intro X hX
              obtain ⟨x0, x1, x2, x3⟩ := hX
              go_simp
              try with_reducible rfl
            simp only [Act.put, List.setIfInBounds_toArray, List.set_cons_zero, List.set_cons_succ, Array.toArray_toList]
            refine wpAnyH_take (i := 25) (oi := { dst := some 130, op := Op.fieldAddr 58 (Operand.tmp 129) 1, type := 0, pos := "outright.go:317", after := #[{ on := 24, ground := Ground.data }, { on := 21, ground := Ground.guard }], guard := some (21, true) }) (v := ?_) rfl (by kernel_rfl) (by kernel_rfl) (by kernel_rfl) (fun _ _ _ h => h) (Or.inl ⟨by rfl, ?_⟩) hS0 ?_
            rotate_left
            · intro X hX
              obtain ⟨x0, x1, x2, x3⟩ := hX
              go_simp
              try with_reducible rfl
            simp only [Act.put, List.setIfInBounds_toArray, List.set_cons_zero, List.set_cons_succ, Array.toArray_toList]
            refine wpAnyH_take (i := 26) (oi := { dst := some 131, op := Op.load 3 (Operand.tmp 130), type := 3, pos := "outright.go:317", after := #[{ on := 25, ground := Ground.data }, { on := 21, ground := Ground.guard }], guard := some (21, true) }) (v := ?_) rfl (by kernel_rfl) (by kernel_rfl) (by kernel_rfl) (fun _ _ _ h => h) (Or.inl ⟨by rfl, ?_⟩) hS0 ?_
            rotate_left
            · intro X hX
              obtain ⟨x0, x1, x2, x3⟩ := hX
              go_simp
              try with_reducible rfl
            simp only [Act.put, List.setIfInBounds_toArray, List.set_cons_zero, List.set_cons_succ, Array.toArray_toList]
            refine wpAnyH_take (i := 27) (oi := { dst := some 132, op := Op.fieldAddr 71 (Operand.tmp 10) 2, type := 0, pos := "outright.go:317", after := #[{ on := 21, ground := Ground.guard }], guard := some (21, true) }) (v := ?_) rfl (by kernel_rfl) (by kernel_rfl) (by kernel_rfl) (fun _ _ _ h => h) (Or.inl ⟨by rfl, ?_⟩) hS0 ?_
            rotate_left
            · intro X hX
              obtain ⟨x0, x1, x2, x3⟩ := hX
              go_simp
              try with_reducible rfl
            simp only [Act.put, List.setIfInBounds_toArray, List.set_cons_zero, List.set_cons_succ, Array.toArray_toList]
            refine wpAnyH_take (i := 28) (oi := { dst := some 133, op := Op.load 3 (Operand.tmp 132), type := 3, pos := "outright.go:317", after := #[{ on := 27, ground := Ground.data }, { on := 21, ground := Ground.guard }], guard := some (21, true) }) (v := ?_) rfl (by kernel_rfl) (by kernel_rfl) (by kernel_rfl) (fun _ _ _ h => h) (Or.inl ⟨by rfl, ?_⟩) hS0 ?_
            rotate_left
            · intro X hX
              obtain ⟨x0, x1, x2, x3⟩ := hX
              go_simp
              try with_reducible rfl
            simp only [Act.put, List.setIfInBounds_toArray, List.set_cons_zero, List.set_cons_succ, Array.toArray_toList]
            refine wpAnyH_take (i := 29) (oi := { dst := some 134, op := Op.move (Operand.tmp 9), type := 3, pos := "outright.go:317", after := #[{ on := 21, ground := Ground.guard }], guard := some (21, true) }) (v := ?_) rfl (by kernel_rfl) (by kernel_rfl) (by kernel_rfl) (fun _ _ _ h => h) (Or.inl ⟨by rfl, ?_⟩) hS0 ?_
            rotate_left
            · intro X hX
              obtain ⟨x0, x1, x2, x3⟩ := hX
              go_simp
              try with_reducible rfl
            simp only [Act.put, List.setIfInBounds_toArray, List.set_cons_zero, List.set_cons_succ, Array.toArray_toList]
            refine wpAnyH_take (i := 30) (oi := { dst := some 135, op := Op.fieldAddr 71 (Operand.tmp 10) 3, type := 0, pos := "outright.go:317", after := #[{ on := 21, ground := Ground.guard }], guard := some (21, true) }) (v := ?_) rfl (by kernel_rfl) (by kernel_rfl) (by kernel_rfl) (fun _ _ _ h => h) (Or.inl ⟨by rfl, ?_⟩) hS0 ?_
            rotate_left
            · intro X hX
              obtain ⟨x0, x1, x2, x3⟩ := hX
              go_simp
              try with_reducible rfl
            simp only [Act.put, List.setIfInBounds_toArray, List.set_cons_zero, List.set_cons_succ, Array.toArray_toList]
            refine wpAnyH_take (i := 31) (oi := { dst := some 136, op := Op.load 3 (Operand.tmp 135), type := 3, pos := "outright.go:317", after := #[{ on := 30, ground := Ground.data }, { on := 21, ground := Ground.guard }], guard := some (21, true) }) (v := ?_) rfl (by kernel_rfl) (by kernel_rfl) (by kernel_rfl) (fun _ _ _ h => h) (Or.inl ⟨by rfl, ?_⟩) hS0 ?_
            rotate_left
            · intro X hX
              obtain ⟨x0, x1, x2, x3⟩ := hX
              go_simp
              try with_reducible rfl
            simp only [Act.put, List.setIfInBounds_toArray, List.set_cons_zero, List.set_cons_succ, Array.toArray_toList]
            refine wpAnyH_take (i := 32) (oi := { dst := some 137, op := Op.binOp BinOp.mul 3 (Operand.tmp 134) (Operand.tmp 136) 3, type := 3, pos := "outright.go:317", after := #[{ on := 29, ground := Ground.data }, { on := 31, ground := Ground.data }, { on := 21, ground := Ground.guard }], guard := some (21, true) }) (v := ?_) rfl (by kernel_rfl) (by kernel_rfl) (by kernel_rfl) (fun _ _ _ h => h) (Or.inl ⟨by rfl, ?_⟩) hS0 ?_
            rotate_left
            · intro X hX
              obtain ⟨x0, x1, x2, x3⟩ := hX
              go_simp
              try with_reducible rfl
            simp only [Act.put, List.setIfInBounds_toArray, List.set_cons_zero, List.set_cons_succ, Array.toArray_toList]
            refine wpAnyH_take (i := 33) (oi := { dst := some 138, op := Op.binOp BinOp.add 3 (Operand.tmp 133) (Operand.tmp 137) 3, type := 3, pos := "outright.go:317", after := #[{ on := 28, ground := Ground.data }, { on := 32, ground := Ground.data }, { on := 21, ground := Ground.guard }], guard := some (21, true) }) (v := ?_) rfl (by kernel_rfl) (by kernel_rfl) (by kernel_rfl) (fun _ _ _ h => h) (Or.inl ⟨by rfl, ?_⟩) hS0 ?_
            rotate_left
            · intro X hX
              obtain ⟨x0, x1, x2, x3⟩ := hX
              go_simp
              try with_reducible rfl
            simp only [Act.put, List.setIfInBounds_toArray, List.set_cons_zero, List.set_cons_succ, Array.toArray_toList]
            refine wpAnyH_take (i := 34) (oi := { dst := some 139, op := Op.call { callee := Callee.builtin Builtin.min, args := #[Operand.const (Value.int IntKind.i64 40), Operand.tmp 138], argTypes := #[3, 3] }, type := 3, pos := "outright.go:317", after := #[{ on := 33, ground := Ground.data }, { on := 21, ground := Ground.guard }], guard := some (21, true) }) (v := ?_) rfl (by kernel_rfl) (by kernel_rfl) (by kernel_rfl) (fun _ _ _ h => h) (Or.inl ⟨by rfl, ?_⟩) hS0 ?_
            rotate_left
            · intro X hX
              obtain ⟨x0, x1, x2, x3⟩ := hX
              go_simp
              try with_reducible rfl
            simp only [Act.put, List.setIfInBounds_toArray, List.set_cons_zero, List.set_cons_succ, Array.toArray_toList]
            refine wpAnyH_take (i := 35) (oi := { dst := some 140, op := Op.binOp BinOp.eql 3 (Operand.tmp 131) (Operand.tmp 139) 3, type := 4, pos := "outright.go:317", after := #[{ on := 26, ground := Ground.data }, { on := 34, ground := Ground.data }, { on := 21, ground := Ground.guard }], guard := some (21, true) }) (v := ?_) rfl (by kernel_rfl) (by kernel_rfl) (by kernel_rfl) (fun _ _ _ h => h) (Or.inl ⟨by rfl, ?_⟩) hS0 ?_
            rotate_left
            · intro X hX
              obtain ⟨x0, x1, x2, x3⟩ := hX
              go_simp
              try with_reducible rfl
            simp only [Act.put, List.setIfInBounds_toArray, List.set_cons_zero, List.set_cons_succ, Array.toArray_toList]
            refine wpAnyH_take (i := 36) (oi := { dst := some 141, op := Op.pick (Operand.tmp 126) (Operand.tmp 140) (Operand.const (Value.bool false)), type := 4, pos := "outright.go:317", after := #[{ on := 21, ground := Ground.data }, { on := 35, ground := Ground.data }], guard := none }) (v := ?_) rfl (by kernel_rfl) (by kernel_rfl) (by kernel_rfl) (fun _ _ _ h => h) (Or.inl ⟨by rfl, ?_⟩) hS0 ?_
            rotate_left
            · intro X hX
              obtain ⟨x0, x1, x2, x3⟩ := hX
              go_simp
              try with_reducible rfl
            simp only [Act.put, List.setIfInBounds_toArray, List.set_cons_zero, List.set_cons_succ, Array.toArray_toList]
            refine wpAnyH_take (i := 37) (oi := { dst := some 142, op := Op.move (Operand.tmp 141), type := 4, pos := "outright.go:317", after := #[{ on := 36, ground := Ground.data }, { on := 21, ground := Ground.chain }], guard := none }) (v := ?_) rfl (by kernel_rfl) (by kernel_rfl) (by kernel_rfl) (fun _ _ _ h => h) (Or.inl ⟨by rfl, ?_⟩) hS0 ?_
            rotate_left
            · intro X hX
              obtain ⟨x0, x1, x2, x3⟩ := hX
              go_simp
              try with_reducible rfl
            simp only [Act.put, List.setIfInBounds_toArray, List.set_cons_zero, List.set_cons_succ, Array.toArray_toList]
            refine wpAnyH_take (i := 38) (oi := { dst := some 143, op := Op.move (Operand.tmp 20), type := 3, pos := "outright.go:317", after := #[{ on := 37, ground := Ground.guard }], guard := some (37, true) }) (v := ?_) rfl (by kernel_rfl) (by kernel_rfl) (by kernel_rfl) (fun _ _ _ h => h) (Or.inl ⟨by rfl, ?_⟩) hS0 ?_
            rotate_left
            · intro X hX
              obtain ⟨x0, x1, x2, x3⟩ := hX
              go_simp
              try with_reducible rfl
            simp only [Act.put, List.setIfInBounds_toArray, List.set_cons_zero, List.set_cons_succ, Array.toArray_toList]
            refine wpAnyH_take (i := 40) (oi := { dst := some 145, op := Op.move (Operand.tmp 18), type := 25, pos := "outright.go:317", after := #[{ on := 37, ground := Ground.guard }], guard := some (37, true) }) (v := ?_) rfl (by kernel_rfl) (by kernel_rfl) (by kernel_rfl) (fun _ _ _ h => h) (Or.inl ⟨by rfl, ?_⟩) hS0 ?_
            rotate_left
            · intro X hX
              obtain ⟨x0, x1, x2, x3⟩ := hX
              go_simp
              try with_reducible rfl
            simp only [Act.put, List.setIfInBounds_toArray, List.set_cons_zero, List.set_cons_succ, Array.toArray_toList]
            refine wpAnyH_ready (rs := [39]) (by kernel_rfl) (by simp) (AllReadyH.cons (o := { dst := some 144, op := Op.buildSlice 25 1 #[(0, Operand.tmp 143)], type := 25, pos := "outright.go:317", after := #[{ on := 38, ground := Ground.data }, { on := 37, ground := Ground.guard }], guard := some (37, true) }) rfl (fun K hK => ?_) AllReadyH.nil)
            go_simp
            have s0 := cell_alloc (x := .cells #[.int .i64 (l.length : Int)] 3) cBa2_38
            have s1 := cell_alloc (x := .cells #[.int .i64 (l.length : Int)] 3) cBa3_38
            have s2 := cell_alloc (x := .cells #[.int .i64 (l.length : Int)] 3) g10
            have s3 := cell_alloc (x := .cells #[.int .i64 (l.length : Int)] 3) g11
            refine hK.out _ _ (⟨s0, s1, s2, s3⟩) (fun hS1 => ?_)
            clear hS0 hK K
            refine wpAnyH_ready (rs := [41]) (by kernel_rfl) (by simp) (AllReadyH.cons (o := { dst := some 146, op := Op.call { callee := Callee.value (Operand.func 60), args := #[Operand.tmp 144, Operand.tmp 145], argTypes := #[25, 25] }, type := 4, pos := "outright.go:317", after := #[{ on := 39, ground := Ground.data }, { on := 40, ground := Ground.data }, { on := 37, ground := Ground.chain }, { on := 37, ground := Ground.guard }], guard := some (37, true) }) rfl (fun K hK => ?_) AllReadyH.nil)
            go_simp
            refine (inside_any _ _ [(l.length : Int)] (ctlL (moreL l r gw) T C e (moreL l r gw).length) _ (ints_new _ [(l.length : Int)]) (FC38.out.keep ((Below.drew (Below.refl _ w38)).alloc (Nat.le_refl _) _) (Nat.le_refl _)) (by simp) HCL.out).mono ?_
            rw [HINS.out]
            rintro e' w2 ⟨rfl, hb2⟩
            have s0' := cell_later hb2 s0
            have s1' := cell_later hb2 s1
            have s2' := cell_later hb2 s2
            have s3' := cell_later hb2 s3
            go_wp2_with fail
            refine hK.out _ _ (⟨s0', s1', s2', s3'⟩) (fun hS2 => ?_)
            clear hS1 hK K
            refine wpAnyH_take (i := 42) (oi := { dst := some 147, op := Op.unOp UnOp.not 4 (Operand.tmp 146), type := 4, pos := "outright.go:317", after := #[{ on := 41, ground := Ground.data }, { on := 37, ground := Ground.guard }], guard := some (37, true) }) (v := ?_) rfl (by kernel_rfl) (by kernel_rfl) (by kernel_rfl) (fun _ _ _ h => h) (Or.inl ⟨by rfl, ?_⟩) hS2 ?_
            rotate_left
            · intro X hX
              obtain ⟨x0, x1, x2, x3⟩ := hX
              go_simp
              try with_reducible rfl
            simp only [Act.put, List.setIfInBounds_toArray, List.set_cons_zero, List.set_cons_succ, Array.toArray_toList]
            refine wpAnyH_take (i := 43) (oi := { dst := some 148, op := Op.pick (Operand.tmp 142) (Operand.tmp 147) (Operand.const (Value.bool false)), type := 4, pos := "outright.go:317", after := #[{ on := 37, ground := Ground.data }, { on := 42, ground := Ground.data }], guard := none }) (v := ?_) rfl (by kernel_rfl) (by kernel_rfl) (by kernel_rfl) (fun _ _ _ h => h) (Or.inl ⟨by rfl, ?_⟩) hS2 ?_
            rotate_left
            · intro X hX
              obtain ⟨x0, x1, x2, x3⟩ := hX
              go_simp
              try with_reducible rfl
            simp only [Act.put, List.setIfInBounds_toArray, List.set_cons_zero, List.set_cons_succ, Array.toArray_toList]
            refine wpAnyH_take (i := 44) (oi := { dst := some 149, op := Op.move (Operand.tmp 148), type := 4, pos := "outright.go:317", after := #[{ on := 43, ground := Ground.data }, { on := 41, ground := Ground.chain }], guard := none }) (v := ?_) rfl (by kernel_rfl) (by kernel_rfl) (by kernel_rfl) (fun _ _ _ h => h) (Or.inl ⟨by rfl, ?_⟩) hS2 ?_
            rotate_left
            · intro X hX
              obtain ⟨x0, x1, x2, x3⟩ := hX
              go_simp
              try with_reducible rfl
            simp only [Act.put, List.setIfInBounds_toArray, List.set_cons_zero, List.set_cons_succ, Array.toArray_toList]
            refine wpAnyH_ready (rs := [45]) (by kernel_rfl) (by simp) (AllReadyH.cons (o := { dst := some 150, op := Op.call { callee := Callee.value (Operand.func 20), args := #[], argTypes := #[] }, type := 4, pos := "outright.go:317", after := #[{ on := 44, ground := Ground.chain }, { on := 44, ground := Ground.guard }], guard := some (44, true) }) rfl (fun K hK => ?_) AllReadyH.nil)
            go_simp
            refine (awake_any _).mono ?_
            rintro e' w3 ⟨rfl, hb3⟩
            have t0 := cell_later hb3 s0'
            have t1 := cell_later hb3 s1'
            have t2 := cell_later hb3 s2'
            have t3 := cell_later hb3 s3'
            go_wp2_with fail
            refine hK.out _ _ (⟨t0, t1, t2, t3⟩) (fun hS3 => ?_)
            clear hS2 hK K
            refine wpAnyH_take (i := 46) (oi := { dst := some 151, op := Op.pick (Operand.tmp 149) (Operand.tmp 150) (Operand.const (Value.bool false)), type := 4, pos := "outright.go:317", after := #[{ on := 44, ground := Ground.data }, { on := 45, ground := Ground.data }], guard := none }) (v := ?_) rfl (by kernel_rfl) (by kernel_rfl) (by kernel_rfl) (fun _ _ _ h => h) (Or.inl ⟨by rfl, ?_⟩) hS3 ?_
            rotate_left
            · intro X hX
              obtain ⟨x0, x1, x2, x3⟩ := hX
              go_simp
              try with_reducible rfl
            simp only [Act.put, List.setIfInBounds_toArray, List.set_cons_zero, List.set_cons_succ, Array.toArray_toList]
            refine wpAnyH_ready (rs := [47]) (by kernel_rfl) (by simp) (AllReadyH.cons (o := { dst := some 8, op := Op.assign (Operand.tmp 151), type := 4, pos := "outright.go:317", after := #[{ on := 46, ground := Ground.data }, { on := 45, ground := Ground.chain }, { on := 0, ground := Ground.phase }, { on := 1, ground := Ground.phase }, { on := 2, ground := Ground.phase }, { on := 3, ground := Ground.phase }, { on := 4, ground := Ground.phase }, { on := 5, ground := Ground.phase }, { on := 6, ground := Ground.phase }, { on := 7, ground := Ground.phase }, { on := 8, ground := Ground.phase }, { on := 9, ground := Ground.phase }, { on := 10, ground := Ground.phase }, { on := 11, ground := Ground.phase }, { on := 12, ground := Ground.phase }, { on := 13, ground := Ground.phase }, { on := 14, ground := Ground.phase }, { on := 15, ground := Ground.phase }, { on := 16, ground := Ground.phase }, { on := 17, ground := Ground.phase }, { on := 18, ground := Ground.phase }, { on := 19, ground := Ground.phase }, { on := 20, ground := Ground.phase }, { on := 21, ground := Ground.phase }, { on := 22, ground := Ground.phase }, { on := 23, ground := Ground.phase }, { on := 24, ground := Ground.phase }, { on := 25, ground := Ground.phase }, { on := 26, ground := Ground.phase }, { on := 27, ground := Ground.phase }, { on := 28, ground := Ground.phase }, { on := 29, ground := Ground.phase }, { on := 30, ground := Ground.phase }, { on := 31, ground := Ground.phase }, { on := 32, ground := Ground.phase }, { on := 33, ground := Ground.phase }, { on := 34, ground := Ground.phase }, { on := 35, ground := Ground.phase }, { on := 36, ground := Ground.phase }, { on := 37, ground := Ground.phase }, { on := 38, ground := Ground.phase }, { on := 39, ground := Ground.phase }, { on := 40, ground := Ground.phase }, { on := 41, ground := Ground.phase }, { on := 42, ground := Ground.phase }, { on := 43, ground := Ground.phase }, { on := 44, ground := Ground.phase }, { on := 45, ground := Ground.phase }, { on := 46, ground := Ground.phase }], guard := none }) rfl (fun K hK => ?_) AllReadyH.nil)
            go_simp
            refine hK.out _ _ (hS3) (fun hS4 => ?_)
            clear hS3 hK K
            refine wpAnyH_done (by kernel_rfl) ?_ _
            clear hS4
            have hbz : Below w38.heap.size w38 (w38.drew.alloc (.cells #[.int .i64 (l.length : Int)] 3)) := ((Below.drew (Below.refl _ w38)).alloc (Nat.le_refl _) _)
            have hbe := hbz.trans ((hb2.mono hbz.size).trans (hb3.mono (Nat.le_trans hbz.size hb2.size)))
            have HB99 := Lib.hid (HB38.out.trans (hbe.mono HB38.out.size))
            clear hbz hbe hb2 hb3 s0 s1 s2 s3 s0' s1' s2' s3' t0 t1 t2 t3
            go_wp2_with fail
            go_ret
            exact ⟨rfl, HB99.out⟩
end Go.Proofs.Ytkloaeaepjoijaa

/-
  reach, bounds: the ends of an angle's bounds.
-/
import Derived.Test.YtkloaeaepjoijaaShow
set_option linter.all false
namespace Go.Proofs.Ytkloaeaepjoijaa
open Go.RowKit Go.WalkArith

theorem low_any (lo hi : Int) (w : World) : Calls Try.prog 102 #[.agg #[.int .i64 lo, .int .i64 hi]] w fun e w' => e = .returned (.int .i64 lo) ∧ Below w.heap.size w w' := by
  go_enter Try.func102, Try.ntmps102
  go_wp2
  go_ret
  exact ⟨rfl, (Below.refl _ _).alloc (Nat.le_refl _) _⟩
theorem high_any (lo hi : Int) (w : World) : Calls Try.prog 103 #[.agg #[.int .i64 lo, .int .i64 hi]] w fun e w' => e = .returned (.int .i64 hi) ∧ Below w.heap.size w w' := by
  go_enter Try.func103, Try.ntmps103
  go_wp2
  go_ret
  exact ⟨rfl, (Below.refl _ _).alloc (Nat.le_refl _) _⟩

/-- With one number in place of a room there is a truth. -/
def pointB (l : List Ang) (T C : Int) (lo hi : Int → Int) (i x : Int) : Bool := canB l T C (updG lo i x) (updG hi i x)

/-- The first number from the low end on, from the high end on. -/
structure IsLow (P : Int → Bool) (lo hi r : Int) : Prop where
  ge : lo ≤ r
  le : r ≤ hi
  yes : P r = true
  no : ∀ y, lo ≤ y → y < r → P y = false
structure IsHigh (P : Int → Bool) (lo hi r : Int) : Prop where
  ge : lo ≤ r
  le : r ≤ hi
  yes : P r = true
  no : ∀ y, r < y → y ≤ hi → P y = false

def ReachRel (i : Nat) (lo hi : Int → Int) (Bn Br Be : Nat) (net en : Obj) (w : World) (P : Int → Bool) (up : Int → Int → Prop) (t : Value) (wr : World) : Prop :=
  ∃ at_ : Int, t = .int .i64 at_ ∧ lo i ≤ at_ ∧ at_ ≤ hi i ∧ (∀ y, up y at_ → P y = false) ∧ (∃ lo' hi', RoomsAt wr Br lo' hi' ∧ ∀ j : Nat, j < 12 → j ≠ i → lo' j = lo j ∧ hi' j = hi j) ∧ wr.heap[Bn]? = some net ∧ wr.heap[Be]? = some en ∧ Below w.heap.size w wr

theorem rooms_point {n i : Nat} {lo hi : Int → Int} {x : Int} (h : RoomsOk n lo hi) (hi' : i < n) (h0 : lo i ≤ x) (h1 : x ≤ hi i) : RoomsOk n (updG lo i x) (updG hi i x) := by
  have a := h.lo0 i hi'
  have b := h.hi1 i hi'
  refine ⟨fun j hj => ?_, fun j hj => ?_, fun j hj => ?_⟩
  · have := h.lo0 j hj; unfold updG; split <;> omega
  · have := h.le j hj; unfold updG; split <;> omega
  · have := h.hi1 j hj; unfold updG; split <;> omega


set_option maxRecDepth 100000 in
set_option maxHeartbeats 4000000 in
theorem reach_low (b o n cap i : Nat) (T C : Int) (l : List Ang) (rs : Array Value) (lo hi : Int → Int) (w : World) (hl : l.length = n) (hok : NetOk l T C) (hA : AngsAt w (some ⟨b, o, none⟩) l) (hrs : RoomsV rs lo hi) (hro : RoomsOk n lo hi) (hi' : i < n) (hex : ∃ x, lo i ≤ x ∧ x ≤ hi i ∧ pointB l T C lo hi i x = true) :
    Calls Try.prog 104 #[.agg #[.func (.func 102) #[] #[], .int .i64 (1)], .agg #[.slice (some ⟨b, o, none⟩) n cap, .int .i64 T, .int .i64 C], .agg rs, .int .i64 i] w fun e w' => ∃ r, e = .returned (.int .i64 r) ∧ IsLow (pointB l T C lo hi i) (lo i) (hi i) r ∧ Below w.heap.size w w' := by
  have HL := Lib.hid hl
  have HO := Lib.hid hok
  have HA := Lib.hid hA
  have HR := Lib.hid hrs
  have HRO := Lib.hid hro
  have HEX := Lib.hid hex
  have hn12 : n ≤ 12 := by rw [← hl]; exact hok.len
  have hB0 : Below w.heap.size w (((w.alloc (.cells #[.func (.func 102) #[] #[], .int .i64 (1)] 149)).alloc (.cells #[.slice (some ⟨b, o, none⟩) n cap, .int .i64 T, .int .i64 C] 33)).alloc (.cells rs 109)) := (((Below.refl _ _).alloc (Nat.le_refl _) _).alloc (by simp) _).alloc (by simp; omega) _
  have he0 : (((w.alloc (.cells #[.func (.func 102) #[] #[], .int .i64 (1)] 149)).alloc (.cells #[.slice (some ⟨b, o, none⟩) n cap, .int .i64 T, .int .i64 C] 33)).alloc (.cells rs 109)).heap[w.heap.size]? = some (.cells #[.func (.func 102) #[] #[], .int .i64 (1)] 149 (0, 0)) := by
    rw [Below.heap_alloc _ _ _ (by simp; try omega), Below.heap_alloc _ _ _ (by simp)]; exact heap_new_at _ _ _ rfl
  have hn0 : (((w.alloc (.cells #[.func (.func 102) #[] #[], .int .i64 (1)] 149)).alloc (.cells #[.slice (some ⟨b, o, none⟩) n cap, .int .i64 T, .int .i64 C] 33)).alloc (.cells rs 109)).heap[w.heap.size + 1]? = some (.cells #[.slice (some ⟨b, o, none⟩) n cap, .int .i64 T, .int .i64 C] 33 (0, 0)) := by
    rw [Below.heap_alloc _ _ _ (by simp)]; exact heap_new_at _ _ _ (by simp)
  have hr0 : (((w.alloc (.cells #[.func (.func 102) #[] #[], .int .i64 (1)] 149)).alloc (.cells #[.slice (some ⟨b, o, none⟩) n cap, .int .i64 T, .int .i64 C] 33)).alloc (.cells rs 109)).heap[w.heap.size + 1 + 1]? = some (.cells rs 109 (0, 0)) := heap_new_at _ _ _ (by simp)
  have HB0 := Lib.hid hB0
  have HE0 := Lib.hid he0
  have HN0 := Lib.hid hn0
  have HR0 := Lib.hid hr0
  clear hl hok hA hrs hro hex hB0 he0 hn0 hr0
  go_enter Try.func104, Try.ntmps104
  go_wp2_with fail
  generalize ((w.alloc (.cells #[.func (.func 102) #[] #[], .int .i64 (1)] 149)).alloc (.cells #[.slice (some ⟨b, o, none⟩) n cap, .int .i64 T, .int .i64 C] 33)).alloc (.cells rs 109) = W1 at HB0 HE0 HN0 HR0 ⊢
  obtain ⟨Br, hBr⟩ : ∃ Br, w.heap.size + 1 + 1 = Br := ⟨_, rfl⟩
  obtain ⟨Bn, hBn⟩ : ∃ Bn, w.heap.size + 1 = Bn := ⟨_, rfl⟩
  obtain ⟨Be, hBe⟩ : ∃ Be, w.heap.size = Be := ⟨_, rfl⟩
  have o1 : w.heap.size ≤ Be := by omega
  have o2 : Be < Bn := by omega
  have o3 : Bn < Br := by omega
  rw [hBr] at HR0 ⊢
  rw [hBn] at HN0 ⊢
  rw [hBe] at HE0 ⊢
  clear hBr hBn hBe
  have c0 : W1.cell? ⟨Be, 0, none⟩ = some (.func (.func 102) #[] #[]) := by simp [World.cell?, HE0.out]
  have r0 : W1.cell? ⟨Br, i * 2, none⟩ = some (.int .i64 (lo i)) := by simp [World.cell?, HR0.out, HR.out.lo i (by omega)]
  have r1 : W1.cell? ⟨Br, i * 2 + 1, none⟩ = some (.int .i64 (hi i)) := by simp [World.cell?, HR0.out, HR.out.hi i (by omega)]
  have i1 : (0 : Int) ≤ (i : Int) := by omega
  have i2 : (i : Int) < 12 := by omega
  go_region_held3 (fun X => X.cell? ⟨Be, 0, none⟩ = some (.func (.func 102) #[] #[]) ∧ X.cell? ⟨Br, i * 2, none⟩ = some (.int .i64 (lo i)) ∧ X.cell? ⟨Br, i * 2 + 1, none⟩ = some (.int .i64 (hi i)))
    (first | go_keep | exact ⟨cell_later hb2 c0, cell_later hb2 r0, cell_later hb2 r1⟩)
    (first | (go_at_call 102; refine (low_any (lo i) (hi i) _).mono ?_; rintro e w2 ⟨rfl, hb2⟩))
  have hl2 : ∀ j, j < W1.heap.size → w2.heap[j]? = W1.heap[j]? := fun j hj => hb2.block j hj
  have lE := (Array.getElem?_eq_some_iff.1 HE0.out).1
  have lN := (Array.getElem?_eq_some_iff.1 HN0.out).1
  have lR := (Array.getElem?_eq_some_iff.1 HR0.out).1
  have E2 := Lib.hid ((hl2 _ lE).trans HE0.out)
  have N2 := Lib.hid ((hl2 _ lN).trans HN0.out)
  have R2 := Lib.hid ((hl2 _ lR).trans HR0.out)
  have B2 : Hid (Below w.heap.size w w2) := Lib.hid (HB0.out.drew.trans (hb2.mono HB0.out.size))
  have hle := HRO.out.le i hi'
  have hlo0 := HRO.out.lo0 i hi'
  have hhi1 := HRO.out.hi1 i hi'
  clear hl2 lE lN lR hb2 HE0 HN0 HR0 HB0 c0 r0 r1
  go_wp2_with fail
  go_loopw [9] (ReachRel i lo hi Bn Br Be (.cells #[.slice (some ⟨b, o, none⟩) n cap, .int .i64 T, .int .i64 C] 33 (0, 0)) (.cells #[.func (.func 102) #[] #[], .int .i64 (1)] 149 (0, 0)) w (pointB l T C lo hi i) (fun y a => lo i ≤ y ∧ y < a)) (fun t _ => (hi i - intOf t).toNat)
  case atStart => exact ⟨_, rfl, by omega, by omega, fun y hy => by omega, ⟨lo, hi, ⟨rs, R2.out, HR.out⟩, fun _ _ _ => ⟨rfl, rfl⟩⟩, N2.out, E2.out, B2.out⟩
  case round =>
    clear N2 E2 B2 R2
    obtain ⟨x, rfl, hx0, hx1, hno, ⟨lo', hi2, hRA, hsame⟩, hN, hE, hB⟩ := hrel
    have hpt := Lib.hid (rooms_point HRO.out hi' hx0 hx1)
    have hRS := hRA.set (i := i) (by omega) x x
    have r0 := (hRA.cells (i := i) (by omega)).1
    have r1 := (hRA.cells (i := i) (by omega)).2
    have z0 := hRA.frozen (i * 2)
    have z1 := hRA.frozen (i * 2 + 1)
    obtain ⟨rs2, hrb2, hrv2⟩ := hRS
    have hrv3 : RoomsV rs2 (updG lo i x) (updG hi i x) := hrv2.congr (fun j hj => by unfold updG; split; rfl; exact ((hsame j hj (by omega)).1).symm) (fun j hj => by unfold updG; split; rfl; exact ((hsame j hj (by omega)).2).symm)
    have HRB2 := Lib.hid hrb2
    have HRV := Lib.hid hrv3
    have HNO := Lib.hid hno
    have hs1 : ∀ j, j ≠ Br → ((wr.setCell ⟨Br, i * 2, none⟩ (.int .i64 x)).setCell ⟨Br, i * 2 + 1, none⟩ (.int .i64 x)).heap[j]? = wr.heap[j]? := fun j hj => (Below.heap_setCell _ _ _ _ hj).trans (Below.heap_setCell _ _ _ _ hj)
    have hN1 := (hs1 Bn (by omega)).trans hN
    have hE1 := (hs1 Be (by omega)).trans hE
    have hB1 : Below w.heap.size w ((wr.setCell ⟨Br, i * 2, none⟩ (.int .i64 x)).setCell ⟨Br, i * 2 + 1, none⟩ (.int .i64 x)) := (hB.setCell (by simp; omega) _).setCell (by simp; omega) _
    have c0 : ((wr.setCell ⟨Br, i * 2, none⟩ (.int .i64 x)).setCell ⟨Br, i * 2 + 1, none⟩ (.int .i64 x)).cell? ⟨Bn, 0, none⟩ = some (.slice (some ⟨b, o, none⟩) n cap) := by simp [World.cell?, hN1]
    have c1 : ((wr.setCell ⟨Br, i * 2, none⟩ (.int .i64 x)).setCell ⟨Br, i * 2 + 1, none⟩ (.int .i64 x)).cell? ⟨Bn, 1, none⟩ = some (.int .i64 T) := by simp [World.cell?, hN1]
    have c2 : ((wr.setCell ⟨Br, i * 2, none⟩ (.int .i64 x)).setCell ⟨Br, i * 2 + 1, none⟩ (.int .i64 x)).cell? ⟨Bn, 2, none⟩ = some (.int .i64 C) := by simp [World.cell?, hN1]
    have hcall := Lib.hid (can_any b o n cap T C l rs2 _ _ _ HL.out HO.out (HA.out.keep hB1 (Nat.le_refl _)) hrv3 hpt.out)
    have HN1 := Lib.hid hN1
    have HE1 := Lib.hid hE1
    have HB1 := Lib.hid hB1
    clear hrb2 hrv2 hrv3 hno hs1 hN1 hE1 hB1 hN hE hB hRA hsame
    obtain ⟨pb, hpb⟩ : ∃ pb, canB l T C (updG lo i x) (updG hi i x) = pb := ⟨_, rfl⟩
    rw [hpb] at hcall
    have HPB := Lib.hid hpb
    clear hpb
    go_wp2_with (refine wpList_load_row rfl 109 _ rfl _ rfl 109 rs2 _ _ HRB2.out Try.underlying109 rfl HRV.out.size ?_)
    refine hcall.out.mono ?_
    rintro e w3 ⟨rfl, hb3⟩
    clear c0 c1 c2 r0 r1 z0 z1 hcall
    have lR : Br < w3.heap.size := Nat.lt_of_lt_of_le (Array.getElem?_eq_some_iff.1 HRB2.out).1 hb3.size
    have hR3 := (hb3.block Br (Array.getElem?_eq_some_iff.1 HRB2.out).1).trans HRB2.out
    have hN3 := (hb3.block Bn (Array.getElem?_eq_some_iff.1 HN1.out).1).trans HN1.out
    have hE3 := (hb3.block Be (Array.getElem?_eq_some_iff.1 HE1.out).1).trans HE1.out
    have hB3 : Below w.heap.size w w3 := HB1.out.trans (hb3.mono HB1.out.size)
    clear hb3
    cases pb with
    | true =>
      have hfin : IsLow (pointB l T C lo hi i) (lo i) (hi i) x := ⟨hx0, hx1, HPB.out, fun y h0 h1 => HNO.out y (by omega)⟩
      have HF := Lib.hid hfin
      clear hfin hR3 hN3 hE3
      go_wp2_with fail
      go_ret
      exact ⟨x, rfl, HF.out, hB3⟩
    | false =>
      have hnx : x < hi i := by
        obtain ⟨y, hy0, hy1, hy2⟩ := HEX.out
        have h1 : y ≠ x := by rintro rfl; have := HPB.out; unfold pointB at hy2; rw [hy2] at this; cases this
        have h2 : ¬ (lo i ≤ y ∧ y < x) := fun h => by rw [HNO.out y h] at hy2; cases hy2
        omega
      have d1 : w3.cell? ⟨Be, 1, none⟩ = some (.int .i64 (1)) := by simp [World.cell?, hE3]
      have HR3 := Lib.hid hR3
      have HN3 := Lib.hid hN3
      have HE3 := Lib.hid hE3
      have HB3 := Lib.hid hB3
      clear hR3 hN3 hE3 hB3
      go_wp2_with fail
      go_roundw
      case rel =>
        refine ⟨x + 1, by first | rfl | go_num, by omega, by omega, fun y hy => ?_, ⟨_, _, ⟨rs2, HR3.out, HRV.out⟩, fun j hj hji => ⟨by unfold updG; rw [if_neg (by omega)], by unfold updG; rw [if_neg (by omega)]⟩⟩, HN3.out, HE3.out, HB3.out⟩
        by_cases e : y = x
        · rw [e]; exact HPB.out
        · exact HNO.out y (by omega)
      case measure => simp [intOf]; omega

set_option maxRecDepth 100000 in
set_option maxHeartbeats 4000000 in
theorem reach_high (b o n cap i : Nat) (T C : Int) (l : List Ang) (rs : Array Value) (lo hi : Int → Int) (w : World) (hl : l.length = n) (hok : NetOk l T C) (hA : AngsAt w (some ⟨b, o, none⟩) l) (hrs : RoomsV rs lo hi) (hro : RoomsOk n lo hi) (hi' : i < n) (hex : ∃ x, lo i ≤ x ∧ x ≤ hi i ∧ pointB l T C lo hi i x = true) :
    Calls Try.prog 104 #[.agg #[.func (.func 103) #[] #[], .int .i64 (-1)], .agg #[.slice (some ⟨b, o, none⟩) n cap, .int .i64 T, .int .i64 C], .agg rs, .int .i64 i] w fun e w' => ∃ r, e = .returned (.int .i64 r) ∧ IsHigh (pointB l T C lo hi i) (lo i) (hi i) r ∧ Below w.heap.size w w' := by
  have HL := Lib.hid hl
  have HO := Lib.hid hok
  have HA := Lib.hid hA
  have HR := Lib.hid hrs
  have HRO := Lib.hid hro
  have HEX := Lib.hid hex
  have hn12 : n ≤ 12 := by rw [← hl]; exact hok.len
  have hB0 : Below w.heap.size w (((w.alloc (.cells #[.func (.func 103) #[] #[], .int .i64 (-1)] 149)).alloc (.cells #[.slice (some ⟨b, o, none⟩) n cap, .int .i64 T, .int .i64 C] 33)).alloc (.cells rs 109)) := (((Below.refl _ _).alloc (Nat.le_refl _) _).alloc (by simp) _).alloc (by simp; omega) _
  have he0 : (((w.alloc (.cells #[.func (.func 103) #[] #[], .int .i64 (-1)] 149)).alloc (.cells #[.slice (some ⟨b, o, none⟩) n cap, .int .i64 T, .int .i64 C] 33)).alloc (.cells rs 109)).heap[w.heap.size]? = some (.cells #[.func (.func 103) #[] #[], .int .i64 (-1)] 149 (0, 0)) := by
    rw [Below.heap_alloc _ _ _ (by simp; try omega), Below.heap_alloc _ _ _ (by simp)]; exact heap_new_at _ _ _ rfl
  have hn0 : (((w.alloc (.cells #[.func (.func 103) #[] #[], .int .i64 (-1)] 149)).alloc (.cells #[.slice (some ⟨b, o, none⟩) n cap, .int .i64 T, .int .i64 C] 33)).alloc (.cells rs 109)).heap[w.heap.size + 1]? = some (.cells #[.slice (some ⟨b, o, none⟩) n cap, .int .i64 T, .int .i64 C] 33 (0, 0)) := by
    rw [Below.heap_alloc _ _ _ (by simp)]; exact heap_new_at _ _ _ (by simp)
  have hr0 : (((w.alloc (.cells #[.func (.func 103) #[] #[], .int .i64 (-1)] 149)).alloc (.cells #[.slice (some ⟨b, o, none⟩) n cap, .int .i64 T, .int .i64 C] 33)).alloc (.cells rs 109)).heap[w.heap.size + 1 + 1]? = some (.cells rs 109 (0, 0)) := heap_new_at _ _ _ (by simp)
  have HB0 := Lib.hid hB0
  have HE0 := Lib.hid he0
  have HN0 := Lib.hid hn0
  have HR0 := Lib.hid hr0
  clear hl hok hA hrs hro hex hB0 he0 hn0 hr0
  go_enter Try.func104, Try.ntmps104
  go_wp2_with fail
  generalize ((w.alloc (.cells #[.func (.func 103) #[] #[], .int .i64 (-1)] 149)).alloc (.cells #[.slice (some ⟨b, o, none⟩) n cap, .int .i64 T, .int .i64 C] 33)).alloc (.cells rs 109) = W1 at HB0 HE0 HN0 HR0 ⊢
  obtain ⟨Br, hBr⟩ : ∃ Br, w.heap.size + 1 + 1 = Br := ⟨_, rfl⟩
  obtain ⟨Bn, hBn⟩ : ∃ Bn, w.heap.size + 1 = Bn := ⟨_, rfl⟩
  obtain ⟨Be, hBe⟩ : ∃ Be, w.heap.size = Be := ⟨_, rfl⟩
  have o1 : w.heap.size ≤ Be := by omega
  have o2 : Be < Bn := by omega
  have o3 : Bn < Br := by omega
  rw [hBr] at HR0 ⊢
  rw [hBn] at HN0 ⊢
  rw [hBe] at HE0 ⊢
  clear hBr hBn hBe
  have c0 : W1.cell? ⟨Be, 0, none⟩ = some (.func (.func 103) #[] #[]) := by simp [World.cell?, HE0.out]
  have r0 : W1.cell? ⟨Br, i * 2, none⟩ = some (.int .i64 (lo i)) := by simp [World.cell?, HR0.out, HR.out.lo i (by omega)]
  have r1 : W1.cell? ⟨Br, i * 2 + 1, none⟩ = some (.int .i64 (hi i)) := by simp [World.cell?, HR0.out, HR.out.hi i (by omega)]
  have i1 : (0 : Int) ≤ (i : Int) := by omega
  have i2 : (i : Int) < 12 := by omega
  go_region_held3 (fun X => X.cell? ⟨Be, 0, none⟩ = some (.func (.func 103) #[] #[]) ∧ X.cell? ⟨Br, i * 2, none⟩ = some (.int .i64 (lo i)) ∧ X.cell? ⟨Br, i * 2 + 1, none⟩ = some (.int .i64 (hi i)))
    (first | go_keep | exact ⟨cell_later hb2 c0, cell_later hb2 r0, cell_later hb2 r1⟩)
    (first | (go_at_call 103; refine (high_any (lo i) (hi i) _).mono ?_; rintro e w2 ⟨rfl, hb2⟩))
  have hl2 : ∀ j, j < W1.heap.size → w2.heap[j]? = W1.heap[j]? := fun j hj => hb2.block j hj
  have lE := (Array.getElem?_eq_some_iff.1 HE0.out).1
  have lN := (Array.getElem?_eq_some_iff.1 HN0.out).1
  have lR := (Array.getElem?_eq_some_iff.1 HR0.out).1
  have E2 := Lib.hid ((hl2 _ lE).trans HE0.out)
  have N2 := Lib.hid ((hl2 _ lN).trans HN0.out)
  have R2 := Lib.hid ((hl2 _ lR).trans HR0.out)
  have B2 : Hid (Below w.heap.size w w2) := Lib.hid (HB0.out.drew.trans (hb2.mono HB0.out.size))
  have hle := HRO.out.le i hi'
  have hlo0 := HRO.out.lo0 i hi'
  have hhi1 := HRO.out.hi1 i hi'
  clear hl2 lE lN lR hb2 HE0 HN0 HR0 HB0 c0 r0 r1
  go_wp2_with fail
  go_loopw [9] (ReachRel i lo hi Bn Br Be (.cells #[.slice (some ⟨b, o, none⟩) n cap, .int .i64 T, .int .i64 C] 33 (0, 0)) (.cells #[.func (.func 103) #[] #[], .int .i64 (-1)] 149 (0, 0)) w (pointB l T C lo hi i) (fun y a => a < y ∧ y ≤ hi i)) (fun t _ => (intOf t - lo i).toNat)
  case atStart => exact ⟨_, rfl, by omega, by omega, fun y hy => by omega, ⟨lo, hi, ⟨rs, R2.out, HR.out⟩, fun _ _ _ => ⟨rfl, rfl⟩⟩, N2.out, E2.out, B2.out⟩
  case round =>
    clear N2 E2 B2 R2
    obtain ⟨x, rfl, hx0, hx1, hno, ⟨lo', hi2, hRA, hsame⟩, hN, hE, hB⟩ := hrel
    have hpt := Lib.hid (rooms_point HRO.out hi' hx0 hx1)
    have hRS := hRA.set (i := i) (by omega) x x
    have r0 := (hRA.cells (i := i) (by omega)).1
    have r1 := (hRA.cells (i := i) (by omega)).2
    have z0 := hRA.frozen (i * 2)
    have z1 := hRA.frozen (i * 2 + 1)
    obtain ⟨rs2, hrb2, hrv2⟩ := hRS
    have hrv3 : RoomsV rs2 (updG lo i x) (updG hi i x) := hrv2.congr (fun j hj => by unfold updG; split; rfl; exact ((hsame j hj (by omega)).1).symm) (fun j hj => by unfold updG; split; rfl; exact ((hsame j hj (by omega)).2).symm)
    have HRB2 := Lib.hid hrb2
    have HRV := Lib.hid hrv3
    have HNO := Lib.hid hno
    have hs1 : ∀ j, j ≠ Br → ((wr.setCell ⟨Br, i * 2, none⟩ (.int .i64 x)).setCell ⟨Br, i * 2 + 1, none⟩ (.int .i64 x)).heap[j]? = wr.heap[j]? := fun j hj => (Below.heap_setCell _ _ _ _ hj).trans (Below.heap_setCell _ _ _ _ hj)
    have hN1 := (hs1 Bn (by omega)).trans hN
    have hE1 := (hs1 Be (by omega)).trans hE
    have hB1 : Below w.heap.size w ((wr.setCell ⟨Br, i * 2, none⟩ (.int .i64 x)).setCell ⟨Br, i * 2 + 1, none⟩ (.int .i64 x)) := (hB.setCell (by simp; omega) _).setCell (by simp; omega) _
    have c0 : ((wr.setCell ⟨Br, i * 2, none⟩ (.int .i64 x)).setCell ⟨Br, i * 2 + 1, none⟩ (.int .i64 x)).cell? ⟨Bn, 0, none⟩ = some (.slice (some ⟨b, o, none⟩) n cap) := by simp [World.cell?, hN1]
    have c1 : ((wr.setCell ⟨Br, i * 2, none⟩ (.int .i64 x)).setCell ⟨Br, i * 2 + 1, none⟩ (.int .i64 x)).cell? ⟨Bn, 1, none⟩ = some (.int .i64 T) := by simp [World.cell?, hN1]
    have c2 : ((wr.setCell ⟨Br, i * 2, none⟩ (.int .i64 x)).setCell ⟨Br, i * 2 + 1, none⟩ (.int .i64 x)).cell? ⟨Bn, 2, none⟩ = some (.int .i64 C) := by simp [World.cell?, hN1]
    have hcall := Lib.hid (can_any b o n cap T C l rs2 _ _ _ HL.out HO.out (HA.out.keep hB1 (Nat.le_refl _)) hrv3 hpt.out)
    have HN1 := Lib.hid hN1
    have HE1 := Lib.hid hE1
    have HB1 := Lib.hid hB1
    clear hrb2 hrv2 hrv3 hno hs1 hN1 hE1 hB1 hN hE hB hRA hsame
    obtain ⟨pb, hpb⟩ : ∃ pb, canB l T C (updG lo i x) (updG hi i x) = pb := ⟨_, rfl⟩
    rw [hpb] at hcall
    have HPB := Lib.hid hpb
    clear hpb
    go_wp2_with (refine wpList_load_row rfl 109 _ rfl _ rfl 109 rs2 _ _ HRB2.out Try.underlying109 rfl HRV.out.size ?_)
    refine hcall.out.mono ?_
    rintro e w3 ⟨rfl, hb3⟩
    clear c0 c1 c2 r0 r1 z0 z1 hcall
    have lR : Br < w3.heap.size := Nat.lt_of_lt_of_le (Array.getElem?_eq_some_iff.1 HRB2.out).1 hb3.size
    have hR3 := (hb3.block Br (Array.getElem?_eq_some_iff.1 HRB2.out).1).trans HRB2.out
    have hN3 := (hb3.block Bn (Array.getElem?_eq_some_iff.1 HN1.out).1).trans HN1.out
    have hE3 := (hb3.block Be (Array.getElem?_eq_some_iff.1 HE1.out).1).trans HE1.out
    have hB3 : Below w.heap.size w w3 := HB1.out.trans (hb3.mono HB1.out.size)
    clear hb3
    cases pb with
    | true =>
      have hfin : IsHigh (pointB l T C lo hi i) (lo i) (hi i) x := ⟨hx0, hx1, HPB.out, fun y h0 h1 => HNO.out y (by omega)⟩
      have HF := Lib.hid hfin
      clear hfin hR3 hN3 hE3
      go_wp2_with fail
      go_ret
      exact ⟨x, rfl, HF.out, hB3⟩
    | false =>
      have hnx : lo i < x := by
        obtain ⟨y, hy0, hy1, hy2⟩ := HEX.out
        have h1 : y ≠ x := by rintro rfl; have := HPB.out; unfold pointB at hy2; rw [hy2] at this; cases this
        have h2 : ¬ (x < y ∧ y ≤ hi i) := fun h => by rw [HNO.out y h] at hy2; cases hy2
        omega
      have d1 : w3.cell? ⟨Be, 1, none⟩ = some (.int .i64 (-1)) := by simp [World.cell?, hE3]
      have HR3 := Lib.hid hR3
      have HN3 := Lib.hid hN3
      have HE3 := Lib.hid hE3
      have HB3 := Lib.hid hB3
      clear hR3 hN3 hE3 hB3
      go_wp2_with fail
      go_roundw
      case rel =>
        refine ⟨x - 1, by first | rfl | go_num, by omega, by omega, fun y hy => ?_, ⟨_, _, ⟨rs2, HR3.out, HRV.out⟩, fun j hj hji => ⟨by unfold updG; rw [if_neg (by omega)], by unfold updG; rw [if_neg (by omega)]⟩⟩, HN3.out, HE3.out, HB3.out⟩
        by_cases e : y = x
        · rw [e]; exact HPB.out
        · exact HNO.out y (by omega)
      case measure => simp [intOf]; omega

end Go.Proofs.Ytkloaeaepjoijaa

/-
  LampNames: the walk.
-/
import Derived.Test.YtefhdcecbmgljaaNamesL
set_option linter.all false
namespace Go.Proofs.Ytefhdcecbmgljaa
open Go.RowKit Go.WalkArith

def NmSeven (w1 : World) (_ v : Value) (W : World) : Prop := v = .int .i64 3 ∧ Below w1.heap.size w1 W
theorem dips7 (w : World) : DpsAt (w.alloc (.cells #[.int .i64 0, .int .i64 0, .int .i64 0, .int .i64 0, .int .i64 0, .int .i64 0, .int .i64 0, .int .i64 0, .int .i64 0, .int .i64 0, .int .i64 0, .int .i64 0, .int .i64 0, .int .i64 0, .int .i64 0, .int .i64 0, .int .i64 0, .int .i64 0, .int .i64 0, .int .i64 0, .int .i64 0] 103)) (some ⟨w.heap.size, 0, none⟩) (List.replicate 7 ⟨0, 0, 0⟩) := by
  have hn := Go.heap_alloc_new w (.cells #[.int .i64 0, .int .i64 0, .int .i64 0, .int .i64 0, .int .i64 0, .int .i64 0, .int .i64 0, .int .i64 0, .int .i64 0, .int .i64 0, .int .i64 0, .int .i64 0, .int .i64 0, .int .i64 0, .int .i64 0, .int .i64 0, .int .i64 0, .int .i64 0, .int .i64 0, .int .i64 0, .int .i64 0] 103)
  generalize w.alloc _ = W at hn ⊢
  refine .inr ⟨_, 0, rfl, fun i hi => ?_⟩
  have hi2 : i < 7 := hi
  match i, hi2 with
  | 0, _ => exact ⟨by simp [World.cell?, hn], by simp [World.cell?, hn], by simp [World.cell?, hn]⟩
  | 1, _ => exact ⟨by simp [World.cell?, hn], by simp [World.cell?, hn], by simp [World.cell?, hn]⟩
  | 2, _ => exact ⟨by simp [World.cell?, hn], by simp [World.cell?, hn], by simp [World.cell?, hn]⟩
  | 3, _ => exact ⟨by simp [World.cell?, hn], by simp [World.cell?, hn], by simp [World.cell?, hn]⟩
  | 4, _ => exact ⟨by simp [World.cell?, hn], by simp [World.cell?, hn], by simp [World.cell?, hn]⟩
  | 5, _ => exact ⟨by simp [World.cell?, hn], by simp [World.cell?, hn], by simp [World.cell?, hn]⟩
  | 6, _ => exact ⟨by simp [World.cell?, hn], by simp [World.cell?, hn], by simp [World.cell?, hn]⟩
theorem nm_leave7 (b p q x : Nat) (W : World) (hT : NtsAt W (some ⟨b, 0, none⟩) tankS.ns) (hC : IntsAt W (.slice (some ⟨p, 0, none⟩) 2 2) [0, 1]) (hK : IntsAt W (.slice (some ⟨q, 0, none⟩) 2 2) [1, 2]) (hD : DpsAt W (some ⟨x, 0, none⟩) (List.replicate 7 ⟨0, 0, 0⟩)) :
    Calls Try.prog 30 #[.agg #[.int .i64 100, .int .i64 50, .int .i64 20, .int .i64 30, .slice (some ⟨b, 0, none⟩) 2 2], .agg #[.slice (some ⟨p, 0, none⟩) 2 2, .slice (some ⟨q, 0, none⟩) 2 2], .slice (some ⟨x, 0, none⟩) 7 7] W fun e w' => e = .returned (.tuple #[.slice none 0 0, .int .i64 3]) ∧ Below W.heap.size W w' :=
  nm_leaveE b p q x W (List.replicate 7 ⟨0, 0, 0⟩) 3 hT hC hK hD (by simp) nm_d7 (by decide)
theorem nm_leave2 (b p q x : Nat) (W : World) (hT : NtsAt W (some ⟨b, 0, none⟩) tankS.ns) (hC : IntsAt W (.slice (some ⟨p, 0, none⟩) 2 2) [0, 1]) (hK : IntsAt W (.slice (some ⟨q, 0, none⟩) 2 2) [1, 2]) (hD : DpsAt W (some ⟨x, 0, none⟩) [⟨2, 0, 0⟩]) :
    Calls Try.prog 30 #[.agg #[.int .i64 100, .int .i64 50, .int .i64 20, .int .i64 30, .slice (some ⟨b, 0, none⟩) 2 2], .agg #[.slice (some ⟨p, 0, none⟩) 2 2, .slice (some ⟨q, 0, none⟩) 2 2], .slice (some ⟨x, 0, none⟩) 1 1] W fun e w' => e = .returned (.tuple #[.slice none 0 0, .int .i64 2]) ∧ Below W.heap.size W w' :=
  nm_leaveE b p q x W [⟨2, 0, 0⟩] 2 hT hC hK hD (by simp) nm_d2 (by decide)
theorem nm_chk (s : St) (A : Option Addr) (cp : Nat) (q : Int) (W : World) (h : faultS s = q) (hn : s.ns.length ≤ 1000000) (hA : NtsAt W A s.ns) :
    Calls Try.prog 18 #[.agg #[.int .i64 s.cap, .int .i64 s.can, .int .i64 s.sl, .int .i64 s.sh, .slice A s.ns.length cp]] W fun e w' => e = .returned (.int .i64 q) ∧ Below W.heap.size W w' := by
  have hp := checkStore_any s A cp W hn hA
  rw [h] at hp
  exact hp
def NmFirst (w1 : World) (v : Value) (W : World) : Prop := v = .bool false ∧ Below w1.heap.size w1 W
theorem keepS4 {W W' : World} {a b c d : Addr} {x y z u : Value} (hb : Below W.heap.size W W') (h : W.cell? a = some x ∧ W.cell? b = some y ∧ W.cell? c = some z ∧ W.cell? d = some u) : W'.cell? a = some x ∧ W'.cell? b = some y ∧ W'.cell? c = some z ∧ W'.cell? d = some u :=
  ⟨cell_later hb h.1, cell_later hb h.2.1, cell_later hb h.2.2.1, cell_later hb h.2.2.2⟩
theorem dip_new (w : World) (n lo hi : Int) : DpsAt (w.alloc (.cells #[.int .i64 n, .int .i64 lo, .int .i64 hi] 103)) (some ⟨w.heap.size, 0, none⟩) [⟨n, lo, hi⟩] := by
  have hn := Go.heap_alloc_new w (.cells #[.int .i64 n, .int .i64 lo, .int .i64 hi] 103)
  generalize w.alloc _ = W at hn ⊢
  refine .inr ⟨_, 0, rfl, fun i hi => ?_⟩
  have hi2 : i < 1 := hi
  match i, hi2 with
  | 0, _ => exact ⟨by simp [World.cell?, hn], by simp [World.cell?, hn], by simp [World.cell?, hn]⟩
/-- A block as it is. -/
def TkAt (W : World) (b : Nat) (o : Obj) : Prop := W.heap[b]? = some o
theorem TkAt.keep {W W' : World} {b B : Nat} {o : Obj} (h : TkAt W b o) (hb : Below B W W') (hB : W.heap.size ≤ B) : TkAt W' b o := (hb.block b (Nat.lt_of_lt_of_le (Array.getElem?_eq_some_iff.1 h).1 hB)).trans h
theorem TkAt.lt {W : World} {b : Nat} {o : Obj} (h : TkAt W b o) : b < W.heap.size := (Array.getElem?_eq_some_iff.1 h).1
theorem TkAt.other {W : World} {b : Nat} {o : Obj} (h : TkAt W b o) {p : Addr} (hp : b ≠ p.block) (v : Value) : TkAt (W.setCell p v) b o := (Below.heap_setCell _ _ _ _ hp).trans h
theorem TkAt.set {W : World} {b t : Nat} {cs : Array Value} (h : TkAt W b (.cells cs t (0, 0))) (i : Nat) (v : Value) : TkAt (W.setCell ⟨b, i, none⟩ v) b (.cells (cs.setIfInBounds i v) t (0, 0)) := heap_setCell_same W b i cs t v h
theorem TkAt.cell {W : World} {b t : Nat} {cs : Array Value} {fr : Nat × Nat} (h : TkAt W b (.cells cs t fr)) (i : Nat) {v : Value} (hv : cs[i]? = some v) : W.cell? ⟨b, i, none⟩ = some v := by
  have h : W.heap[b]? = some (.cells cs t fr) := h
  simp [World.cell?, h, hv]
theorem TkAt.soft {W : World} {b t : Nat} {cs : Array Value} (h : TkAt W b (.cells cs t (0, 0))) (i : Nat) : W.frozen? ⟨b, i, none⟩ = false := by
  have h : W.heap[b]? = some (.cells cs t (0, 0)) := h
  simp [World.frozen?, h]
set_option maxRecDepth 100000 in
set_option maxHeartbeats 2000000 in
theorem tank_blk (w : World) : Calls Try.prog 55 #[] w fun e w' => ∃ b, e = .returned (.agg #[.int .i64 100, .int .i64 50, .int .i64 20, .int .i64 30, .slice (some ⟨b, 0, none⟩) 2 2]) ∧ TkAt w' b (.cells #[.int .i64 5, .int .i64 1, .int .i64 3, .int .i64 2, .int .i64 3, .int .i64 4, .int .i64 1, .int .i64 2, .int .i64 2, .int .i64 2] 105 (0, 0)) ∧ w.heap.size ≤ b ∧ Below w.heap.size w w' := by
  have hb0 : Below w.heap.size w (w.alloc (.cells #[.int .i64 0, .int .i64 0, .int .i64 0, .int .i64 0, .slice none 0 0] 39)) := (Below.refl _ _).alloc (Nat.le_refl _) _
  have hn0 := Go.heap_alloc_new w (.cells #[.int .i64 0, .int .i64 0, .int .i64 0, .int .i64 0, .slice none 0 0] 39)
  obtain ⟨w1, hw1⟩ : ∃ w1, w.alloc (.cells #[.int .i64 0, .int .i64 0, .int .i64 0, .int .i64 0, .slice none 0 0] 39) = w1 := ⟨_, rfl⟩
  rw [hw1] at hb0 hn0
  have HW1 := Lib.hid hw1
  have HB1 := Lib.hid hb0
  have HN1 := Lib.hid hn0
  clear hw1 hb0 hn0
  go_enter Try.func55, Try.ntmps55
  go_wp2_with fail
  rw [HW1.out]
  refine (between_any _ _ _).mono ?_
  rintro e w2 ⟨rfl, hb2⟩
  go_wp2_with fail
  refine (between_any _ _ _).mono ?_
  rintro e w3 ⟨rfl, hb3⟩
  go_wp2_with fail
  refine (between_any _ _ _).mono ?_
  rintro e w4 ⟨rfl, hb4⟩
  have h14 : Below w1.heap.size w1 w4 := (hb2.trans (hb3.mono hb2.size)).trans (hb4.mono (hb2.trans (hb3.mono hb2.size)).size)
  have HB4 := Lib.hid (HB1.out.trans (h14.mono HB1.out.size))
  have hn4 := (h14.block _ (Array.getElem?_eq_some_iff.1 HN1.out).1).trans HN1.out
  have HN4 := Lib.hid hn4
  have l4 := (Array.getElem?_eq_some_iff.1 hn4).1
  have r0 : w4.cell? ⟨w.heap.size, 0, none⟩ = some (.int .i64 0) := by simp [World.cell?, hn4]
  have r1 : w4.cell? ⟨w.heap.size, 1, none⟩ = some (.int .i64 0) := by simp [World.cell?, hn4]
  have r2 : w4.cell? ⟨w.heap.size, 2, none⟩ = some (.int .i64 0) := by simp [World.cell?, hn4]
  have r3 : w4.cell? ⟨w.heap.size, 3, none⟩ = some (.int .i64 0) := by simp [World.cell?, hn4]
  have r4 : w4.cell? ⟨w.heap.size, 4, none⟩ = some (.slice none 0 0) := by simp [World.cell?, hn4]
  have z : ∀ o, w4.frozen? ⟨w.heap.size, o, none⟩ = false := fun o => by simp [World.frozen?, hn4]
  have z0 := z 0
  have z1 := z 1
  have z2 := z 2
  have z3 := z 3
  have z4 := z 4
  clear hb2 hb3 hb4 h14 hn4 z HW1 HB1 HN1
  go_wp2_with fail
  have hq : (((((w4.setCell ⟨w.heap.size, 0, none⟩ (.int .i64 100)).setCell ⟨w.heap.size, 1, none⟩ (.int .i64 50)).setCell ⟨w.heap.size, 2, none⟩ (.int .i64 20)).setCell ⟨w.heap.size, 3, none⟩ (.int .i64 30)).setCell ⟨w.heap.size, 4, none⟩ (.slice (some ⟨w4.heap.size, 0, none⟩) 2 2)).heap[w.heap.size]? = some (.cells #[.int .i64 100, .int .i64 50, .int .i64 20, .int .i64 30, .slice (some ⟨w4.heap.size, 0, none⟩) 2 2] 39 (0, 0)) := by simp [World.setCell, Array.getElem?_modify, HN4.out]
  have hbl := ((((HB4.out.setCell (p := ⟨w.heap.size, 0, none⟩) (Nat.le_refl _) (.int .i64 100)).setCell (p := ⟨w.heap.size, 1, none⟩) (Nat.le_refl _) (.int .i64 50)).setCell (p := ⟨w.heap.size, 2, none⟩) (Nat.le_refl _) (.int .i64 20)).setCell (p := ⟨w.heap.size, 3, none⟩) (Nat.le_refl _) (.int .i64 30)).setCell (p := ⟨w.heap.size, 4, none⟩) (Nat.le_refl _) (.slice (some ⟨w4.heap.size, 0, none⟩) 2 2)
  have hsz : (((((w4.setCell ⟨w.heap.size, 0, none⟩ (.int .i64 100)).setCell ⟨w.heap.size, 1, none⟩ (.int .i64 50)).setCell ⟨w.heap.size, 2, none⟩ (.int .i64 20)).setCell ⟨w.heap.size, 3, none⟩ (.int .i64 30)).setCell ⟨w.heap.size, 4, none⟩ (.slice (some ⟨w4.heap.size, 0, none⟩) 2 2)).heap.size = w4.heap.size := by simp
  generalize (((((w4.setCell ⟨w.heap.size, 0, none⟩ (.int .i64 100)).setCell ⟨w.heap.size, 1, none⟩ (.int .i64 50)).setCell ⟨w.heap.size, 2, none⟩ (.int .i64 20)).setCell ⟨w.heap.size, 3, none⟩ (.int .i64 30)).setCell ⟨w.heap.size, 4, none⟩ (.slice (some ⟨w4.heap.size, 0, none⟩) 2 2)) = V at hq hbl hsz ⊢
  rw [← hsz] at hq ⊢
  have hn := Go.heap_alloc_new V (.cells #[.int .i64 5, .int .i64 1, .int .i64 3, .int .i64 2, .int .i64 3, .int .i64 4, .int .i64 1, .int .i64 2, .int .i64 2, .int .i64 2] 105)
  have hq2 := (Below.heap_alloc V (.cells #[.int .i64 5, .int .i64 1, .int .i64 3, .int .i64 2, .int .i64 3, .int .i64 4, .int .i64 1, .int .i64 2, .int .i64 2, .int .i64 2] 105) w.heap.size (by omega)).trans hq
  have hb2 := hbl.alloc hbl.size (.cells #[.int .i64 5, .int .i64 1, .int .i64 3, .int .i64 2, .int .i64 3, .int .i64 4, .int .i64 1, .int .i64 2, .int .i64 2, .int .i64 2] 105)
  have hle := hbl.size
  generalize V.alloc (.cells #[.int .i64 5, .int .i64 1, .int .i64 3, .int .i64 2, .int .i64 3, .int .i64 4, .int .i64 1, .int .i64 2, .int .i64 2, .int .i64 2] 105) = W at hn hq2 hb2 ⊢
  have q0 : W.cell? ⟨w.heap.size, 0, none⟩ = some (.int .i64 100) := by simp [World.cell?, hq2]
  have q1 : W.cell? ⟨w.heap.size, 1, none⟩ = some (.int .i64 50) := by simp [World.cell?, hq2]
  have q2 : W.cell? ⟨w.heap.size, 2, none⟩ = some (.int .i64 20) := by simp [World.cell?, hq2]
  have q3 : W.cell? ⟨w.heap.size, 3, none⟩ = some (.int .i64 30) := by simp [World.cell?, hq2]
  have q4 : W.cell? ⟨w.heap.size, 4, none⟩ = some (.slice (some ⟨V.heap.size, 0, none⟩) 2 2) := by simp [World.cell?, hq2]
  exact bodyPost_ret (v := .agg #[.int .i64 100, .int .i64 50, .int .i64 20, .int .i64 30, .slice (some ⟨V.heap.size, 0, none⟩) 2 2]) (by simp [results, Try.results55, go_sem, q0, q1, q2, q3, q4]) rfl ⟨V.heap.size, rfl, hn, hle, hb2⟩

theorem tk2 {W : World} {b : Nat} {x0 x1 x2 x3 x4 y0 y1 y2 y3 y4 : Int} (h : TkAt W b (.cells #[.int .i64 x0, .int .i64 x1, .int .i64 x2, .int .i64 x3, .int .i64 x4, .int .i64 y0, .int .i64 y1, .int .i64 y2, .int .i64 y3, .int .i64 y4] 105 (0, 0))) : NtsAt W (some ⟨b, 0, none⟩) [⟨x0, x1, x2, x3, x4⟩, ⟨y0, y1, y2, y3, y4⟩] := by
  refine .inr ⟨_, 0, rfl, fun i hi => ?_⟩
  have hi2 : i < 2 := hi
  match i, hi2 with
  | 0, _ => exact ⟨h.cell 0 rfl, h.cell 1 rfl, h.cell 2 rfl, h.cell 3 rfl, h.cell 4 rfl⟩
  | 1, _ => exact ⟨h.cell 5 rfl, h.cell 6 rfl, h.cell 7 rfl, h.cell 8 rfl, h.cell 9 rfl⟩
theorem tk7 {W : World} {b : Nat} (h : TkAt W b (.cells #[.int .i64 0, .int .i64 0, .int .i64 0, .int .i64 0, .int .i64 0, .int .i64 0, .int .i64 0, .int .i64 0, .int .i64 0, .int .i64 0, .int .i64 0, .int .i64 0, .int .i64 0, .int .i64 0, .int .i64 0, .int .i64 0, .int .i64 0, .int .i64 0, .int .i64 0, .int .i64 0, .int .i64 0, .int .i64 0, .int .i64 0, .int .i64 0, .int .i64 0, .int .i64 0, .int .i64 0, .int .i64 0, .int .i64 0, .int .i64 0, .int .i64 0, .int .i64 0, .int .i64 0, .int .i64 0, .int .i64 0] 105 (0, 0))) : NtsAt W (some ⟨b, 0, none⟩) (List.replicate 7 ⟨0, 0, 0, 0, 0⟩) := by
  refine .inr ⟨_, 0, rfl, fun i hi => ?_⟩
  have hi2 : i < 7 := hi
  match i, hi2 with
  | 0, _ => exact ⟨h.cell 0 rfl, h.cell 1 rfl, h.cell 2 rfl, h.cell 3 rfl, h.cell 4 rfl⟩
  | 1, _ => exact ⟨h.cell 5 rfl, h.cell 6 rfl, h.cell 7 rfl, h.cell 8 rfl, h.cell 9 rfl⟩
  | 2, _ => exact ⟨h.cell 10 rfl, h.cell 11 rfl, h.cell 12 rfl, h.cell 13 rfl, h.cell 14 rfl⟩
  | 3, _ => exact ⟨h.cell 15 rfl, h.cell 16 rfl, h.cell 17 rfl, h.cell 18 rfl, h.cell 19 rfl⟩
  | 4, _ => exact ⟨h.cell 20 rfl, h.cell 21 rfl, h.cell 22 rfl, h.cell 23 rfl, h.cell 24 rfl⟩
  | 5, _ => exact ⟨h.cell 25 rfl, h.cell 26 rfl, h.cell 27 rfl, h.cell 28 rfl, h.cell 29 rfl⟩
  | 6, _ => exact ⟨h.cell 30 rfl, h.cell 31 rfl, h.cell 32 rfl, h.cell 33 rfl, h.cell 34 rfl⟩
set_option maxRecDepth 100000 in
set_option maxHeartbeats 8000000 in
theorem names_walk (w : World) : Calls Try.prog 13 #[] w fun e w' => e = .returned (.bool true) ∧ Below w.heap.size w w' := by
  have HB0 := Lib.hid (Below.refl w.heap.size w)
  go_enter Try.func13, Try.ntmps13
  go_wp2_with fail
  refine (tank_any _).mono ?_
  rintro e w1 ⟨b1, rfl, ha, hbx, hb⟩
  clear hbx
  have HB1 := Lib.hid (HB0.out.trans (hb.mono HB0.out.size))
  have FT11 := Lib.hid ha
  clear HB0  ha hb 
  go_wp2_with fail
  refine (plan_any _ _ _ _ _).mono ?_
  rintro e w2 ⟨p1, q1, rfl, hc, hk, hb⟩
  have HB2 := Lib.hid (HB1.out.trans (hb.mono HB1.out.size))
  have FT12 := Lib.hid (FT11.out.keep hb (Nat.le_refl _))
  have FC12 := Lib.hid hc
  have FK12 := Lib.hid hk
  clear HB1 FT11 hc hk hb 
  go_wp2_with fail
  refine (between_any _ _ _).mono ?_
  rintro e w3 ⟨rfl, hb⟩
  have HB3 := Lib.hid (HB2.out.trans (hb.mono HB2.out.size))
  have FT13 := Lib.hid (FT12.out.keep hb (Nat.le_refl _))
  have FC13 := Lib.hid (FC12.out.keep hb (Nat.le_refl _))
  have FK13 := Lib.hid (FK12.out.keep hb (Nat.le_refl _))
  clear HB2 FT12 FC12 FK12  hb 
  have hp := nm_oil b1 p1 q1 w3.heap.size (w3.alloc (.cells #[.int .i64 0, .int .i64 16, .int .i64 20] 103)) (FT13.out.keep ((Below.refl _ _).alloc (Nat.le_refl _) _) (Nat.le_refl _)) (FC13.out.keep ((Below.refl _ _).alloc (Nat.le_refl _) _) (Nat.le_refl _)) (FK13.out.keep ((Below.refl _ _).alloc (Nat.le_refl _) _) (Nat.le_refl _)) (dip_new w3 0 16 20)
  have HP := Lib.hid hp
  clear hp
  go_wp2_with fail
  refine HP.out.mono ?_
  clear HP
  rintro e w4 ⟨i4, o4, c4, rfl, r0, r1, r2, r3, hb0⟩
  have hb : Below w3.heap.size w3 w4 := ((Below.refl _ _).alloc (Nat.le_refl _) (.cells #[.int .i64 0, .int .i64 16, .int .i64 20] 103)).trans (hb0.mono (by simp))
  clear hb0
  have HB4 := Lib.hid (HB3.out.trans (hb.mono HB3.out.size))
  have FT14 := Lib.hid (FT13.out.keep hb (Nat.le_refl _))
  have FC14 := Lib.hid (FC13.out.keep hb (Nat.le_refl _))
  have FK14 := Lib.hid (FK13.out.keep hb (Nat.le_refl _))
  clear HB3 FT13 FC13 FK13  hb 
  clear FT14
  clear FC14
  clear FK14
  go_wp2_with fail
  refine (tank_any _).mono ?_
  rintro e w5 ⟨b2, rfl, ha, hbx, hb⟩
  clear hbx
  have HB5 := Lib.hid (HB4.out.trans (hb.mono HB4.out.size))
  have FT25 := Lib.hid ha
  replace r0 := cell_later hb r0
  replace r1 := cell_later hb r1
  replace r2 := cell_later hb r2
  replace r3 := cell_later hb r3
  clear HB4  ha hb 
  have hp := nm_del b2 w5.heap.size (w5.alloc (.cells #[.int .i64 2, .int .i64 2] 3)) (FT25.out.keep ((Below.refl _ _).alloc (Nat.le_refl _) _) (Nat.le_refl _)) (ints_new w5 [2, 2])
  have HP := Lib.hid hp
  clear hp
  go_wp2_with fail
  refine HP.out.mono ?_
  clear HP
  rintro e w6 ⟨aG, zG, rfl, hG, hb0⟩
  have hb : Below w5.heap.size w5 w6 := ((Below.refl _ _).alloc (Nat.le_refl _) (.cells #[.int .i64 2, .int .i64 2] 3)).trans (hb0.mono (by simp))
  clear hb0
  have HB6 := Lib.hid (HB5.out.trans (hb.mono HB5.out.size))
  have FT26 := Lib.hid (FT25.out.keep hb (Nat.le_refl _))
  have FG6 := Lib.hid hG
  replace r0 := cell_later hb r0
  replace r1 := cell_later hb r1
  replace r2 := cell_later hb r2
  replace r3 := cell_later hb r3
  clear HB5 FT25 hG hb 
  clear FT26
  go_wp2_with fail
  refine (tank_any _).mono ?_
  rintro e w7 ⟨b3, rfl, ha, hbx, hb⟩
  clear hbx
  have HB7 := Lib.hid (HB6.out.trans (hb.mono HB6.out.size))
  have FG7 := Lib.hid (FG6.out.keep hb (Nat.le_refl _))
  have FT37 := Lib.hid ha
  replace r0 := cell_later hb r0
  replace r1 := cell_later hb r1
  replace r2 := cell_later hb r2
  replace r3 := cell_later hb r3
  clear HB6 FG6 ha hb 
  have hp := nm_trim b3 w7.heap.size (w7.alloc (.cells #[.int .i64 0, .int .i64 1] 3)) (FT37.out.keep ((Below.refl _ _).alloc (Nat.le_refl _) _) (Nat.le_refl _)) (ints_new w7 [0, 1])
  have HP := Lib.hid hp
  clear hp
  go_wp2_with fail
  refine HP.out.mono ?_
  clear HP
  rintro e w8 ⟨aH, zH, rfl, hH, hb0⟩
  have hb : Below w7.heap.size w7 w8 := ((Below.refl _ _).alloc (Nat.le_refl _) (.cells #[.int .i64 0, .int .i64 1] 3)).trans (hb0.mono (by simp))
  clear hb0
  have HB8 := Lib.hid (HB7.out.trans (hb.mono HB7.out.size))
  have FG8 := Lib.hid (FG7.out.keep hb (Nat.le_refl _))
  have FT38 := Lib.hid (FT37.out.keep hb (Nat.le_refl _))
  have FH8 := Lib.hid hH
  replace r0 := cell_later hb r0
  replace r1 := cell_later hb r1
  replace r2 := cell_later hb r2
  replace r3 := cell_later hb r3
  clear HB7 FG7 FT37 hH hb 
  clear FT38
  go_wp2_with fail
  refine (tank_any _).mono ?_
  rintro e w9 ⟨b4, rfl, ha, hbx, hb⟩
  clear hbx
  have HB9 := Lib.hid (HB8.out.trans (hb.mono HB8.out.size))
  have FG9 := Lib.hid (FG8.out.keep hb (Nat.le_refl _))
  have FH9 := Lib.hid (FH8.out.keep hb (Nat.le_refl _))
  have FT49 := Lib.hid ha
  replace r0 := cell_later hb r0
  replace r1 := cell_later hb r1
  replace r2 := cell_later hb r2
  replace r3 := cell_later hb r3
  clear HB8 FG8 FH8 ha hb 
  go_wp2_with fail
  refine (plan_any _ _ _ _ _).mono ?_
  rintro e w10 ⟨p4, q4, rfl, hc, hk, hb⟩
  have HB10 := Lib.hid (HB9.out.trans (hb.mono HB9.out.size))
  have FG10 := Lib.hid (FG9.out.keep hb (Nat.le_refl _))
  have FH10 := Lib.hid (FH9.out.keep hb (Nat.le_refl _))
  have FT410 := Lib.hid (FT49.out.keep hb (Nat.le_refl _))
  have FC410 := Lib.hid hc
  have FK410 := Lib.hid hk
  replace r0 := cell_later hb r0
  replace r1 := cell_later hb r1
  replace r2 := cell_later hb r2
  replace r3 := cell_later hb r3
  clear HB9 FG9 FH9 FT49 hc hk hb 
  have hp := nm_leave0 b4 p4 q4 w10 FT410.out FC410.out FK410.out
  have HP := Lib.hid hp
  clear hp
  go_wp2_with fail
  refine HP.out.mono ?_
  clear HP
  rintro e w11 ⟨aX, zX, rfl, hb⟩
  have HB11 := Lib.hid (HB10.out.trans (hb.mono HB10.out.size))
  have FG11 := Lib.hid (FG10.out.keep hb (Nat.le_refl _))
  have FH11 := Lib.hid (FH10.out.keep hb (Nat.le_refl _))
  have FT411 := Lib.hid (FT410.out.keep hb (Nat.le_refl _))
  have FC411 := Lib.hid (FC410.out.keep hb (Nat.le_refl _))
  have FK411 := Lib.hid (FK410.out.keep hb (Nat.le_refl _))
  replace r0 := cell_later hb r0
  replace r1 := cell_later hb r1
  replace r2 := cell_later hb r2
  replace r3 := cell_later hb r3
  clear HB10 FG10 FH10 FT410 FC410 FK410  hb 
  clear FT411
  clear FC411
  clear FK411
  go_upto_region 5 with fail
  go_cut [126] from 53 to 126 (NmFirst w11)
  case first =>
    refine wp_region_held_drew (S := fun X => X.cell? ⟨i4, o4, none⟩ = some (.int .i64 16) ∧ X.cell? ⟨i4, o4 + 1, none⟩ = some (.int .i64 20) ∧ X.cell? ⟨i4, o4 + 2, none⟩ = some (.int .i64 50) ∧ X.cell? ⟨i4, o4 + 3, none⟩ = some (.int .i64 54)) (by kernel_rfl) (⟨r0, r1, r2, r3⟩) (fun hS0 => ?_)
    have HB11 := Lib.hid (Below.refl w11.heap.size w11)
    have hb : Below w11.heap.size w11 w11.drew := (Below.refl _ _).drew
    have HB12 := Lib.hid (HB11.out.trans (hb.mono HB11.out.size))
    have FG12 := Lib.hid (FG11.out.keep hb (Nat.le_refl _))
    have FH12 := Lib.hid (FH11.out.keep hb (Nat.le_refl _))
    clear HB11 FG11 FH11  hb r0 r1 r2 r3
    generalize hdr : w11.drew = w12 at HB12 FG12 FH12 hS0 ⊢
    clear hdr
    refine tkH 0 ⟨some 53, .move (.tmp 2), 34, "outright.go:40", #[], none⟩ (v := ?_) hS0 ?_ ?_
    rotate_left
    · intro X ⟨x0, x1, x2, x3⟩; go_simp; try with_reducible rfl
    simp only [Act.put, List.setIfInBounds_toArray, List.set_cons_zero, List.set_cons_succ, Array.toArray_toList]
    refine tkH 1 ⟨some 54, .binOp .neq 34 (.tmp 53) (.const (.int .i64 0)) 34, 4, "outright.go:40", #[⟨0, .data⟩], none⟩ (v := ?_) hS0 ?_ ?_
    rotate_left
    · intro X ⟨x0, x1, x2, x3⟩; go_simp; try with_reducible rfl
    simp only [Act.put, List.setIfInBounds_toArray, List.set_cons_zero, List.set_cons_succ, Array.toArray_toList]
    refine tkH 2 ⟨some 55, .move (.tmp 54), 4, "outright.go:40", #[⟨1, .data⟩], none⟩ (v := ?_) hS0 ?_ ?_
    rotate_left
    · intro X ⟨x0, x1, x2, x3⟩; go_simp; try with_reducible rfl
    simp only [Act.put, List.setIfInBounds_toArray, List.set_cons_zero, List.set_cons_succ, Array.toArray_toList]
    refine tkH 3 ⟨some 56, .move (.tmp 1), 75, "outright.go:40", #[⟨2, .guard⟩], some (2, false)⟩ (v := ?_) hS0 ?_ ?_
    rotate_left
    · intro X ⟨x0, x1, x2, x3⟩; go_simp; try with_reducible rfl
    simp only [Act.put, List.setIfInBounds_toArray, List.set_cons_zero, List.set_cons_succ, Array.toArray_toList]
    refine tkH 4 ⟨some 57, .call ⟨.builtin .len, #[.tmp 56], #[75]⟩, 3, "outright.go:40", #[⟨3, .data⟩, ⟨2, .guard⟩], some (2, false)⟩ (v := ?_) hS0 ?_ ?_
    rotate_left
    · intro X ⟨x0, x1, x2, x3⟩; go_simp; try with_reducible rfl
    simp only [Act.put, List.setIfInBounds_toArray, List.set_cons_zero, List.set_cons_succ, Array.toArray_toList]
    refine tkH 5 ⟨some 58, .binOp .neq 3 (.tmp 57) (.const (.int .i64 2)) 3, 4, "outright.go:40", #[⟨4, .data⟩, ⟨2, .guard⟩], some (2, false)⟩ (v := ?_) hS0 ?_ ?_
    rotate_left
    · intro X ⟨x0, x1, x2, x3⟩; go_simp; try with_reducible rfl
    simp only [Act.put, List.setIfInBounds_toArray, List.set_cons_zero, List.set_cons_succ, Array.toArray_toList]
    refine tkH 6 ⟨some 59, .pick (.tmp 55) (.const (.bool true)) (.tmp 58), 4, "outright.go:40", #[⟨2, .data⟩, ⟨5, .data⟩], none⟩ (v := ?_) hS0 ?_ ?_
    rotate_left
    · intro X ⟨x0, x1, x2, x3⟩; go_simp; try with_reducible rfl
    simp only [Act.put, List.setIfInBounds_toArray, List.set_cons_zero, List.set_cons_succ, Array.toArray_toList]
    refine tkH 7 ⟨some 60, .move (.tmp 59), 4, "outright.go:40", #[⟨6, .data⟩, ⟨2, .chain⟩], none⟩ (v := ?_) hS0 ?_ ?_
    rotate_left
    · intro X ⟨x0, x1, x2, x3⟩; go_simp; try with_reducible rfl
    simp only [Act.put, List.setIfInBounds_toArray, List.set_cons_zero, List.set_cons_succ, Array.toArray_toList]
    refine tkH 8 ⟨some 61, .move (.tmp 1), 75, "outright.go:40", #[⟨7, .guard⟩], some (7, false)⟩ (v := ?_) hS0 ?_ ?_
    rotate_left
    · intro X ⟨x0, x1, x2, x3⟩; go_simp; try with_reducible rfl
    simp only [Act.put, List.setIfInBounds_toArray, List.set_cons_zero, List.set_cons_succ, Array.toArray_toList]
    refine tkH 9 ⟨some 62, .indexAddr 75 (.tmp 61) (.const (.int .i64 0)), 0, "outright.go:40", #[⟨8, .data⟩, ⟨7, .guard⟩], some (7, false)⟩ (v := ?_) hS0 ?_ ?_
    rotate_left
    · intro X ⟨x0, x1, x2, x3⟩; go_simp; try with_reducible rfl
    simp only [Act.put, List.setIfInBounds_toArray, List.set_cons_zero, List.set_cons_succ, Array.toArray_toList]
    refine tkH 10 ⟨some 63, .load 36 (.tmp 62), 36, "outright.go:40", #[⟨9, .data⟩, ⟨7, .guard⟩], some (7, false)⟩ (v := ?_) hS0 ?_ ?_
    rotate_left
    · intro X ⟨x0, x1, x2, x3⟩; go_simp; try with_reducible rfl
    simp only [Act.put, List.setIfInBounds_toArray, List.set_cons_zero, List.set_cons_succ, Array.toArray_toList]
    refine wpAnyH_ready (rs := [11]) (by kernel_rfl) (by simp) (AllReadyH.cons (o := ⟨some 64, .call ⟨.value (.func 57), #[.const (.int .i64 16), .const (.int .i64 20)], #[3, 3]⟩, 36, "outright.go:40", #[⟨7, .chain⟩, ⟨7, .guard⟩], some (7, false)⟩) rfl (fun K hK => ?_) AllReadyH.nil)
    go_simp
    refine (between_any _ _ _).mono ?_
    rintro e w13 ⟨rfl, hb⟩
    go_wp2_with fail
    refine hK.out _ _ ((keepS4 hb hS0)) (fun hS1 => ?_)
    clear hS0 hK K
    have HB13 := Lib.hid (HB12.out.trans (hb.mono HB12.out.size))
    have FG13 := Lib.hid (FG12.out.keep hb (Nat.le_refl _))
    have FH13 := Lib.hid (FH12.out.keep hb (Nat.le_refl _))
    clear HB12 FG12 FH12  hb
    refine tkH 12 ⟨some 65, .binOp .neq 36 (.tmp 63) (.tmp 64) 36, 4, "outright.go:40", #[⟨10, .data⟩, ⟨11, .data⟩, ⟨7, .guard⟩], some (7, false)⟩ (v := ?_) hS1 ?_ ?_
    rotate_left
    · intro X ⟨x0, x1, x2, x3⟩; go_simp; try with_reducible rfl
    simp only [Act.put, List.setIfInBounds_toArray, List.set_cons_zero, List.set_cons_succ, Array.toArray_toList]
    refine tkH 13 ⟨some 66, .pick (.tmp 60) (.const (.bool true)) (.tmp 65), 4, "outright.go:40", #[⟨7, .data⟩, ⟨12, .data⟩], none⟩ (v := ?_) hS1 ?_ ?_
    rotate_left
    · intro X ⟨x0, x1, x2, x3⟩; go_simp; try with_reducible rfl
    simp only [Act.put, List.setIfInBounds_toArray, List.set_cons_zero, List.set_cons_succ, Array.toArray_toList]
    refine tkH 14 ⟨some 67, .move (.tmp 66), 4, "outright.go:40", #[⟨13, .data⟩, ⟨11, .chain⟩], none⟩ (v := ?_) hS1 ?_ ?_
    rotate_left
    · intro X ⟨x0, x1, x2, x3⟩; go_simp; try with_reducible rfl
    simp only [Act.put, List.setIfInBounds_toArray, List.set_cons_zero, List.set_cons_succ, Array.toArray_toList]
    refine tkH 15 ⟨some 68, .move (.tmp 1), 75, "outright.go:40", #[⟨14, .guard⟩], some (14, false)⟩ (v := ?_) hS1 ?_ ?_
    rotate_left
    · intro X ⟨x0, x1, x2, x3⟩; go_simp; try with_reducible rfl
    simp only [Act.put, List.setIfInBounds_toArray, List.set_cons_zero, List.set_cons_succ, Array.toArray_toList]
    refine tkH 16 ⟨some 69, .indexAddr 75 (.tmp 68) (.const (.int .i64 1)), 0, "outright.go:40", #[⟨15, .data⟩, ⟨14, .guard⟩], some (14, false)⟩ (v := ?_) hS1 ?_ ?_
    rotate_left
    · intro X ⟨x0, x1, x2, x3⟩; go_simp; try with_reducible rfl
    simp only [Act.put, List.setIfInBounds_toArray, List.set_cons_zero, List.set_cons_succ, Array.toArray_toList]
    refine tkH 17 ⟨some 70, .load 36 (.tmp 69), 36, "outright.go:40", #[⟨16, .data⟩, ⟨14, .guard⟩], some (14, false)⟩ (v := ?_) hS1 ?_ ?_
    rotate_left
    · intro X ⟨x0, x1, x2, x3⟩; go_simp; try with_reducible rfl
    simp only [Act.put, List.setIfInBounds_toArray, List.set_cons_zero, List.set_cons_succ, Array.toArray_toList]
    refine wpAnyH_ready (rs := [18]) (by kernel_rfl) (by simp) (AllReadyH.cons (o := ⟨some 71, .call ⟨.value (.func 57), #[.const (.int .i64 50), .const (.int .i64 54)], #[3, 3]⟩, 36, "outright.go:40", #[⟨14, .chain⟩, ⟨14, .guard⟩], some (14, false)⟩) rfl (fun K hK => ?_) AllReadyH.nil)
    go_simp
    refine (between_any _ _ _).mono ?_
    rintro e w14 ⟨rfl, hb⟩
    go_wp2_with fail
    refine hK.out _ _ ((keepS4 hb hS1)) (fun hS2 => ?_)
    clear hS1 hK K
    have HB14 := Lib.hid (HB13.out.trans (hb.mono HB13.out.size))
    have FG14 := Lib.hid (FG13.out.keep hb (Nat.le_refl _))
    have FH14 := Lib.hid (FH13.out.keep hb (Nat.le_refl _))
    clear HB13 FG13 FH13  hb
    refine tkH 19 ⟨some 72, .binOp .neq 36 (.tmp 70) (.tmp 71) 36, 4, "outright.go:40", #[⟨17, .data⟩, ⟨18, .data⟩, ⟨14, .guard⟩], some (14, false)⟩ (v := ?_) hS2 ?_ ?_
    rotate_left
    · intro X ⟨x0, x1, x2, x3⟩; go_simp; try with_reducible rfl
    simp only [Act.put, List.setIfInBounds_toArray, List.set_cons_zero, List.set_cons_succ, Array.toArray_toList]
    refine tkH 20 ⟨some 73, .pick (.tmp 67) (.const (.bool true)) (.tmp 72), 4, "outright.go:40", #[⟨14, .data⟩, ⟨19, .data⟩], none⟩ (v := ?_) hS2 ?_ ?_
    rotate_left
    · intro X ⟨x0, x1, x2, x3⟩; go_simp; try with_reducible rfl
    simp only [Act.put, List.setIfInBounds_toArray, List.set_cons_zero, List.set_cons_succ, Array.toArray_toList]
    refine tkH 21 ⟨some 74, .move (.tmp 73), 4, "outright.go:40", #[⟨20, .data⟩, ⟨18, .chain⟩], none⟩ (v := ?_) hS2 ?_ ?_
    rotate_left
    · intro X ⟨x0, x1, x2, x3⟩; go_simp; try with_reducible rfl
    simp only [Act.put, List.setIfInBounds_toArray, List.set_cons_zero, List.set_cons_succ, Array.toArray_toList]
    refine tkH 22 ⟨some 75, .move (.tmp 5), 34, "outright.go:40", #[⟨21, .guard⟩], some (21, false)⟩ (v := ?_) hS2 ?_ ?_
    rotate_left
    · intro X ⟨x0, x1, x2, x3⟩; go_simp; try with_reducible rfl
    simp only [Act.put, List.setIfInBounds_toArray, List.set_cons_zero, List.set_cons_succ, Array.toArray_toList]
    refine tkH 23 ⟨some 76, .binOp .neq 34 (.tmp 75) (.const (.int .i64 0)) 34, 4, "outright.go:40", #[⟨22, .data⟩, ⟨21, .guard⟩], some (21, false)⟩ (v := ?_) hS2 ?_ ?_
    rotate_left
    · intro X ⟨x0, x1, x2, x3⟩; go_simp; try with_reducible rfl
    simp only [Act.put, List.setIfInBounds_toArray, List.set_cons_zero, List.set_cons_succ, Array.toArray_toList]
    refine tkH 24 ⟨some 77, .pick (.tmp 74) (.const (.bool true)) (.tmp 76), 4, "outright.go:40", #[⟨21, .data⟩, ⟨23, .data⟩], none⟩ (v := ?_) hS2 ?_ ?_
    rotate_left
    · intro X ⟨x0, x1, x2, x3⟩; go_simp; try with_reducible rfl
    simp only [Act.put, List.setIfInBounds_toArray, List.set_cons_zero, List.set_cons_succ, Array.toArray_toList]
    refine tkH 25 ⟨some 78, .move (.tmp 77), 4, "outright.go:40", #[⟨24, .data⟩, ⟨21, .chain⟩], none⟩ (v := ?_) hS2 ?_ ?_
    rotate_left
    · intro X ⟨x0, x1, x2, x3⟩; go_simp; try with_reducible rfl
    simp only [Act.put, List.setIfInBounds_toArray, List.set_cons_zero, List.set_cons_succ, Array.toArray_toList]
    refine tkH 26 ⟨some 79, .move (.tmp 4), 3, "outright.go:40", #[⟨25, .guard⟩], some (25, false)⟩ (v := ?_) hS2 ?_ ?_
    rotate_left
    · intro X ⟨x0, x1, x2, x3⟩; go_simp; try with_reducible rfl
    simp only [Act.put, List.setIfInBounds_toArray, List.set_cons_zero, List.set_cons_succ, Array.toArray_toList]
    refine tkH 27 ⟨some 80, .binOp .neq 3 (.tmp 79) (.const (.int .i64 1)) 3, 4, "outright.go:40", #[⟨26, .data⟩, ⟨25, .guard⟩], some (25, false)⟩ (v := ?_) hS2 ?_ ?_
    rotate_left
    · intro X ⟨x0, x1, x2, x3⟩; go_simp; try with_reducible rfl
    simp only [Act.put, List.setIfInBounds_toArray, List.set_cons_zero, List.set_cons_succ, Array.toArray_toList]
    refine tkH 28 ⟨some 81, .pick (.tmp 78) (.const (.bool true)) (.tmp 80), 4, "outright.go:40", #[⟨25, .data⟩, ⟨27, .data⟩], none⟩ (v := ?_) hS2 ?_ ?_
    rotate_left
    · intro X ⟨x0, x1, x2, x3⟩; go_simp; try with_reducible rfl
    simp only [Act.put, List.setIfInBounds_toArray, List.set_cons_zero, List.set_cons_succ, Array.toArray_toList]
    refine tkH 29 ⟨some 82, .move (.tmp 81), 4, "outright.go:40", #[⟨28, .data⟩, ⟨25, .chain⟩], none⟩ (v := ?_) hS2 ?_ ?_
    rotate_left
    · intro X ⟨x0, x1, x2, x3⟩; go_simp; try with_reducible rfl
    simp only [Act.put, List.setIfInBounds_toArray, List.set_cons_zero, List.set_cons_succ, Array.toArray_toList]
    refine tkH 30 ⟨some 83, .move (.tmp 3), 27, "outright.go:40", #[⟨29, .guard⟩], some (29, false)⟩ (v := ?_) hS2 ?_ ?_
    rotate_left
    · intro X ⟨x0, x1, x2, x3⟩; go_simp; try with_reducible rfl
    simp only [Act.put, List.setIfInBounds_toArray, List.set_cons_zero, List.set_cons_succ, Array.toArray_toList]
    refine wpAnyH_ready (rs := [31]) (by kernel_rfl) (by simp) (AllReadyH.cons (o := ⟨some 84, .buildSlice 27 2 #[(0, .const (.int .i64 1)), (1, .const (.int .i64 0))], 27, "outright.go:40", #[⟨29, .guard⟩], some (29, false)⟩) rfl (fun K hK => ?_) AllReadyH.nil)
    go_simp
    have hal : Below w14.heap.size w14 (w14.alloc (.cells #[.int .i64 1, .int .i64 0] 3)) := (Below.refl _ _).alloc (Nat.le_refl _) _
    refine hK.out _ _ ((keepS4 hal hS2)) (fun hS3 => ?_)
    clear hS2 hK K
    refine wpAnyH_ready (rs := [32]) (by kernel_rfl) (by simp) (AllReadyH.cons (o := ⟨some 85, .call ⟨.value (.func 27), #[.tmp 83, .tmp 84], #[27, 27]⟩, 4, "outright.go:40", #[⟨30, .data⟩, ⟨31, .data⟩, ⟨29, .chain⟩, ⟨29, .guard⟩], some (29, false)⟩) rfl (fun K hK => ?_) AllReadyH.nil)
    go_simp
    have hp := same_any (.slice aG 2 zG) (.slice (some ⟨w14.heap.size, 0, none⟩) 2 2) [1, 0] [1, 0] (w14.alloc (.cells #[.int .i64 1, .int .i64 0] 3)) (FG14.out.keep hal (Nat.le_refl _)) (ints_new w14 [1, 0]) (by decide) (by decide)
    rw [show decide (([1, 0] : List Int) = [1, 0]) = true from by simp] at hp
    with_reducible refine hp.mono ?_
    clear hp
    rintro e w15 ⟨rfl, hb0⟩
    have hb : Below w14.heap.size w14 w15 := hal.trans (hb0.mono hal.size)
    go_wp2_with fail
    refine hK.out _ _ ((keepS4 hb0 hS3)) (fun hS4 => ?_)
    clear hS3 hK K
    have HB15 := Lib.hid (HB14.out.trans (hb.mono HB14.out.size))
    have FH15 := Lib.hid (FH14.out.keep hb (Nat.le_refl _))
    clear HB14 FH14  FG14 hb hb0 hal
    refine tkH 33 ⟨some 86, .unOp .not 4 (.tmp 85), 4, "outright.go:40", #[⟨32, .data⟩, ⟨29, .guard⟩], some (29, false)⟩ (v := ?_) hS4 ?_ ?_
    rotate_left
    · intro X ⟨x0, x1, x2, x3⟩; go_simp; try with_reducible rfl
    simp only [Act.put, List.setIfInBounds_toArray, List.set_cons_zero, List.set_cons_succ, Array.toArray_toList]
    refine tkH 34 ⟨some 87, .pick (.tmp 82) (.const (.bool true)) (.tmp 86), 4, "outright.go:40", #[⟨29, .data⟩, ⟨33, .data⟩], none⟩ (v := ?_) hS4 ?_ ?_
    rotate_left
    · intro X ⟨x0, x1, x2, x3⟩; go_simp; try with_reducible rfl
    simp only [Act.put, List.setIfInBounds_toArray, List.set_cons_zero, List.set_cons_succ, Array.toArray_toList]
    refine tkH 35 ⟨some 88, .move (.tmp 87), 4, "outright.go:40", #[⟨34, .data⟩, ⟨32, .chain⟩], none⟩ (v := ?_) hS4 ?_ ?_
    rotate_left
    · intro X ⟨x0, x1, x2, x3⟩; go_simp; try with_reducible rfl
    simp only [Act.put, List.setIfInBounds_toArray, List.set_cons_zero, List.set_cons_succ, Array.toArray_toList]
    refine tkH 36 ⟨some 89, .move (.tmp 8), 34, "outright.go:40", #[⟨35, .guard⟩], some (35, false)⟩ (v := ?_) hS4 ?_ ?_
    rotate_left
    · intro X ⟨x0, x1, x2, x3⟩; go_simp; try with_reducible rfl
    simp only [Act.put, List.setIfInBounds_toArray, List.set_cons_zero, List.set_cons_succ, Array.toArray_toList]
    refine tkH 37 ⟨some 90, .binOp .neq 34 (.tmp 89) (.const (.int .i64 0)) 34, 4, "outright.go:40", #[⟨36, .data⟩, ⟨35, .guard⟩], some (35, false)⟩ (v := ?_) hS4 ?_ ?_
    rotate_left
    · intro X ⟨x0, x1, x2, x3⟩; go_simp; try with_reducible rfl
    simp only [Act.put, List.setIfInBounds_toArray, List.set_cons_zero, List.set_cons_succ, Array.toArray_toList]
    refine tkH 38 ⟨some 91, .pick (.tmp 88) (.const (.bool true)) (.tmp 90), 4, "outright.go:40", #[⟨35, .data⟩, ⟨37, .data⟩], none⟩ (v := ?_) hS4 ?_ ?_
    rotate_left
    · intro X ⟨x0, x1, x2, x3⟩; go_simp; try with_reducible rfl
    simp only [Act.put, List.setIfInBounds_toArray, List.set_cons_zero, List.set_cons_succ, Array.toArray_toList]
    refine tkH 39 ⟨some 92, .move (.tmp 91), 4, "outright.go:40", #[⟨38, .data⟩, ⟨35, .chain⟩], none⟩ (v := ?_) hS4 ?_ ?_
    rotate_left
    · intro X ⟨x0, x1, x2, x3⟩; go_simp; try with_reducible rfl
    simp only [Act.put, List.setIfInBounds_toArray, List.set_cons_zero, List.set_cons_succ, Array.toArray_toList]
    refine tkH 40 ⟨some 93, .move (.tmp 7), 3, "outright.go:40", #[⟨39, .guard⟩], some (39, false)⟩ (v := ?_) hS4 ?_ ?_
    rotate_left
    · intro X ⟨x0, x1, x2, x3⟩; go_simp; try with_reducible rfl
    simp only [Act.put, List.setIfInBounds_toArray, List.set_cons_zero, List.set_cons_succ, Array.toArray_toList]
    refine tkH 41 ⟨some 94, .binOp .neq 3 (.tmp 93) (.const (.int .i64 13)) 3, 4, "outright.go:40", #[⟨40, .data⟩, ⟨39, .guard⟩], some (39, false)⟩ (v := ?_) hS4 ?_ ?_
    rotate_left
    · intro X ⟨x0, x1, x2, x3⟩; go_simp; try with_reducible rfl
    simp only [Act.put, List.setIfInBounds_toArray, List.set_cons_zero, List.set_cons_succ, Array.toArray_toList]
    refine tkH 42 ⟨some 95, .pick (.tmp 92) (.const (.bool true)) (.tmp 94), 4, "outright.go:40", #[⟨39, .data⟩, ⟨41, .data⟩], none⟩ (v := ?_) hS4 ?_ ?_
    rotate_left
    · intro X ⟨x0, x1, x2, x3⟩; go_simp; try with_reducible rfl
    simp only [Act.put, List.setIfInBounds_toArray, List.set_cons_zero, List.set_cons_succ, Array.toArray_toList]
    refine tkH 43 ⟨some 96, .move (.tmp 95), 4, "outright.go:40", #[⟨42, .data⟩, ⟨39, .chain⟩], none⟩ (v := ?_) hS4 ?_ ?_
    rotate_left
    · intro X ⟨x0, x1, x2, x3⟩; go_simp; try with_reducible rfl
    simp only [Act.put, List.setIfInBounds_toArray, List.set_cons_zero, List.set_cons_succ, Array.toArray_toList]
    refine tkH 44 ⟨some 97, .move (.tmp 6), 27, "outright.go:40", #[⟨43, .guard⟩], some (43, false)⟩ (v := ?_) hS4 ?_ ?_
    rotate_left
    · intro X ⟨x0, x1, x2, x3⟩; go_simp; try with_reducible rfl
    simp only [Act.put, List.setIfInBounds_toArray, List.set_cons_zero, List.set_cons_succ, Array.toArray_toList]
    refine wpAnyH_ready (rs := [45]) (by kernel_rfl) (by simp) (AllReadyH.cons (o := ⟨some 98, .buildSlice 27 2 #[(0, .const (.int .i64 1)), (1, .const (.int .i64 2))], 27, "outright.go:40", #[⟨43, .guard⟩], some (43, false)⟩) rfl (fun K hK => ?_) AllReadyH.nil)
    go_simp
    have hal : Below w15.heap.size w15 (w15.alloc (.cells #[.int .i64 1, .int .i64 2] 3)) := (Below.refl _ _).alloc (Nat.le_refl _) _
    refine hK.out _ _ ((keepS4 hal hS4)) (fun hS5 => ?_)
    clear hS4 hK K
    refine wpAnyH_ready (rs := [46]) (by kernel_rfl) (by simp) (AllReadyH.cons (o := ⟨some 99, .call ⟨.value (.func 27), #[.tmp 97, .tmp 98], #[27, 27]⟩, 4, "outright.go:40", #[⟨44, .data⟩, ⟨45, .data⟩, ⟨43, .chain⟩, ⟨43, .guard⟩], some (43, false)⟩) rfl (fun K hK => ?_) AllReadyH.nil)
    go_simp
    have hp := same_any (.slice aH 2 zH) (.slice (some ⟨w15.heap.size, 0, none⟩) 2 2) [1, 2] [1, 2] (w15.alloc (.cells #[.int .i64 1, .int .i64 2] 3)) (FH15.out.keep hal (Nat.le_refl _)) (ints_new w15 [1, 2]) (by decide) (by decide)
    rw [show decide (([1, 2] : List Int) = [1, 2]) = true from by simp] at hp
    with_reducible refine hp.mono ?_
    clear hp
    rintro e w16 ⟨rfl, hb0⟩
    have hb : Below w15.heap.size w15 w16 := hal.trans (hb0.mono hal.size)
    go_wp2_with fail
    refine hK.out _ _ ((keepS4 hb0 hS5)) (fun hS6 => ?_)
    clear hS5 hK K
    have HB16 := Lib.hid (HB15.out.trans (hb.mono HB15.out.size))
    clear HB15   FH15 hb hb0 hal
    refine tkH 47 ⟨some 100, .unOp .not 4 (.tmp 99), 4, "outright.go:40", #[⟨46, .data⟩, ⟨43, .guard⟩], some (43, false)⟩ (v := ?_) hS6 ?_ ?_
    rotate_left
    · intro X ⟨x0, x1, x2, x3⟩; go_simp; try with_reducible rfl
    simp only [Act.put, List.setIfInBounds_toArray, List.set_cons_zero, List.set_cons_succ, Array.toArray_toList]
    refine tkH 48 ⟨some 101, .pick (.tmp 96) (.const (.bool true)) (.tmp 100), 4, "outright.go:40", #[⟨43, .data⟩, ⟨47, .data⟩], none⟩ (v := ?_) hS6 ?_ ?_
    rotate_left
    · intro X ⟨x0, x1, x2, x3⟩; go_simp; try with_reducible rfl
    simp only [Act.put, List.setIfInBounds_toArray, List.set_cons_zero, List.set_cons_succ, Array.toArray_toList]
    refine tkH 49 ⟨some 102, .move (.tmp 101), 4, "outright.go:40", #[⟨48, .data⟩, ⟨46, .chain⟩], none⟩ (v := ?_) hS6 ?_ ?_
    rotate_left
    · intro X ⟨x0, x1, x2, x3⟩; go_simp; try with_reducible rfl
    simp only [Act.put, List.setIfInBounds_toArray, List.set_cons_zero, List.set_cons_succ, Array.toArray_toList]
    refine tkH 50 ⟨some 103, .move (.tmp 10), 34, "outright.go:40", #[⟨49, .guard⟩], some (49, false)⟩ (v := ?_) hS6 ?_ ?_
    rotate_left
    · intro X ⟨x0, x1, x2, x3⟩; go_simp; try with_reducible rfl
    simp only [Act.put, List.setIfInBounds_toArray, List.set_cons_zero, List.set_cons_succ, Array.toArray_toList]
    refine tkH 51 ⟨some 104, .binOp .neq 34 (.tmp 103) (.const (.int .i64 0)) 34, 4, "outright.go:40", #[⟨50, .data⟩, ⟨49, .guard⟩], some (49, false)⟩ (v := ?_) hS6 ?_ ?_
    rotate_left
    · intro X ⟨x0, x1, x2, x3⟩; go_simp; try with_reducible rfl
    simp only [Act.put, List.setIfInBounds_toArray, List.set_cons_zero, List.set_cons_succ, Array.toArray_toList]
    refine tkH 52 ⟨some 105, .pick (.tmp 102) (.const (.bool true)) (.tmp 104), 4, "outright.go:40", #[⟨49, .data⟩, ⟨51, .data⟩], none⟩ (v := ?_) hS6 ?_ ?_
    rotate_left
    · intro X ⟨x0, x1, x2, x3⟩; go_simp; try with_reducible rfl
    simp only [Act.put, List.setIfInBounds_toArray, List.set_cons_zero, List.set_cons_succ, Array.toArray_toList]
    refine tkH 53 ⟨some 106, .move (.tmp 105), 4, "outright.go:40", #[⟨52, .data⟩, ⟨49, .chain⟩], none⟩ (v := ?_) hS6 ?_ ?_
    rotate_left
    · intro X ⟨x0, x1, x2, x3⟩; go_simp; try with_reducible rfl
    simp only [Act.put, List.setIfInBounds_toArray, List.set_cons_zero, List.set_cons_succ, Array.toArray_toList]
    refine tkH 54 ⟨some 107, .move (.tmp 9), 27, "outright.go:40", #[⟨53, .guard⟩], some (53, false)⟩ (v := ?_) hS6 ?_ ?_
    rotate_left
    · intro X ⟨x0, x1, x2, x3⟩; go_simp; try with_reducible rfl
    simp only [Act.put, List.setIfInBounds_toArray, List.set_cons_zero, List.set_cons_succ, Array.toArray_toList]
    refine tkH 55 ⟨some 108, .call ⟨.builtin .len, #[.tmp 107], #[27]⟩, 3, "outright.go:40", #[⟨54, .data⟩, ⟨53, .guard⟩], some (53, false)⟩ (v := ?_) hS6 ?_ ?_
    rotate_left
    · intro X ⟨x0, x1, x2, x3⟩; go_simp; try with_reducible rfl
    simp only [Act.put, List.setIfInBounds_toArray, List.set_cons_zero, List.set_cons_succ, Array.toArray_toList]
    refine tkH 56 ⟨some 109, .binOp .neq 3 (.tmp 108) (.const (.int .i64 0)) 3, 4, "outright.go:40", #[⟨55, .data⟩, ⟨53, .guard⟩], some (53, false)⟩ (v := ?_) hS6 ?_ ?_
    rotate_left
    · intro X ⟨x0, x1, x2, x3⟩; go_simp; try with_reducible rfl
    simp only [Act.put, List.setIfInBounds_toArray, List.set_cons_zero, List.set_cons_succ, Array.toArray_toList]
    refine tkH 57 ⟨some 110, .pick (.tmp 106) (.const (.bool true)) (.tmp 109), 4, "outright.go:40", #[⟨53, .data⟩, ⟨56, .data⟩], none⟩ (v := ?_) hS6 ?_ ?_
    rotate_left
    · intro X ⟨x0, x1, x2, x3⟩; go_simp; try with_reducible rfl
    simp only [Act.put, List.setIfInBounds_toArray, List.set_cons_zero, List.set_cons_succ, Array.toArray_toList]
    refine tkH 58 ⟨some 111, .move (.tmp 110), 4, "outright.go:40", #[⟨57, .data⟩, ⟨53, .chain⟩], none⟩ (v := ?_) hS6 ?_ ?_
    rotate_left
    · intro X ⟨x0, x1, x2, x3⟩; go_simp; try with_reducible rfl
    simp only [Act.put, List.setIfInBounds_toArray, List.set_cons_zero, List.set_cons_succ, Array.toArray_toList]
    refine wpAnyH_ready (rs := [59]) (by kernel_rfl) (by simp) (AllReadyH.cons (o := ⟨some 112, .call ⟨.value (.func 55), #[], #[]⟩, 39, "outright.go:40", #[⟨58, .chain⟩, ⟨58, .guard⟩], some (58, false)⟩) rfl (fun K hK => ?_) AllReadyH.nil)
    go_simp
    refine (tank_any _).mono ?_
    rintro e w17 ⟨b5, rfl, ha, hbx, hb⟩
    go_wp2_with fail
    refine hK.out _ _ ((keepS4 hb hS6)) (fun hS7 => ?_)
    clear hS6 hK K
    have HB17 := Lib.hid (HB16.out.trans (hb.mono HB16.out.size))
    have FT517 := Lib.hid ha
    clear HB16  ha hb hbx
    refine wpAnyH_ready (rs := [60]) (by kernel_rfl) (by simp) (AllReadyH.cons (o := ⟨some 113, .call ⟨.value (.func 56), #[.const (.int .i64 0), .const (.int .i64 1), .const (.int .i64 1), .const (.int .i64 2)], #[3, 3, 3, 3]⟩, 44, "outright.go:40", #[⟨59, .chain⟩, ⟨58, .guard⟩], some (58, false)⟩) rfl (fun K hK => ?_) AllReadyH.nil)
    go_simp
    refine (plan_any _ _ _ _ _).mono ?_
    rintro e w18 ⟨p5, q5, rfl, hc, hk, hb⟩
    go_wp2_with fail
    refine hK.out _ _ ((keepS4 hb hS7)) (fun hS8 => ?_)
    clear hS7 hK K
    have HB18 := Lib.hid (HB17.out.trans (hb.mono HB17.out.size))
    have FT518 := Lib.hid (FT517.out.keep hb (Nat.le_refl _))
    have FC518 := Lib.hid hc
    have FK518 := Lib.hid hk
    clear HB17 FT517 hc hk hb
    refine wpAnyH_ready (rs := [61]) (by kernel_rfl) (by simp) (AllReadyH.cons (o := ⟨some 114, .call ⟨.value (.func 51), #[.tmp 112, .tmp 113], #[39, 44]⟩, 4, "outright.go:40", #[⟨59, .data⟩, ⟨60, .data⟩, ⟨60, .chain⟩, ⟨58, .guard⟩], some (58, false)⟩) rfl (fun K hK => ?_) AllReadyH.nil)
    go_simp
    have hp := nm_prove b5 p5 q5 w18 1 true nm_p1 FT518.out FC518.out FK518.out
    with_reducible refine hp.mono ?_
    clear hp
    rintro e w19 ⟨rfl, hb⟩
    go_wp2_with fail
    refine hK.out _ _ ((keepS4 hb hS8)) (fun hS9 => ?_)
    clear hS8 hK K
    have HB19 := Lib.hid (HB18.out.trans (hb.mono HB18.out.size))
    clear HB18   hb FT518 FC518 FK518
    refine tkH 62 ⟨some 115, .unOp .not 4 (.tmp 114), 4, "outright.go:40", #[⟨61, .data⟩, ⟨58, .guard⟩], some (58, false)⟩ (v := ?_) hS9 ?_ ?_
    rotate_left
    · intro X ⟨x0, x1, x2, x3⟩; go_simp; try with_reducible rfl
    simp only [Act.put, List.setIfInBounds_toArray, List.set_cons_zero, List.set_cons_succ, Array.toArray_toList]
    refine tkH 63 ⟨some 116, .pick (.tmp 111) (.const (.bool true)) (.tmp 115), 4, "outright.go:40", #[⟨58, .data⟩, ⟨62, .data⟩], none⟩ (v := ?_) hS9 ?_ ?_
    rotate_left
    · intro X ⟨x0, x1, x2, x3⟩; go_simp; try with_reducible rfl
    simp only [Act.put, List.setIfInBounds_toArray, List.set_cons_zero, List.set_cons_succ, Array.toArray_toList]
    refine tkH 64 ⟨some 117, .move (.tmp 116), 4, "outright.go:40", #[⟨63, .data⟩, ⟨61, .chain⟩], none⟩ (v := ?_) hS9 ?_ ?_
    rotate_left
    · intro X ⟨x0, x1, x2, x3⟩; go_simp; try with_reducible rfl
    simp only [Act.put, List.setIfInBounds_toArray, List.set_cons_zero, List.set_cons_succ, Array.toArray_toList]
    refine wpAnyH_ready (rs := [65]) (by kernel_rfl) (by simp) (AllReadyH.cons (o := ⟨some 118, .call ⟨.value (.func 55), #[], #[]⟩, 39, "outright.go:40", #[⟨64, .chain⟩, ⟨64, .guard⟩], some (64, false)⟩) rfl (fun K hK => ?_) AllReadyH.nil)
    go_simp
    refine (tank_any _).mono ?_
    rintro e w20 ⟨b6, rfl, ha, hbx, hb⟩
    go_wp2_with fail
    refine hK.out _ _ ((keepS4 hb hS9)) (fun hS10 => ?_)
    clear hS9 hK K
    have HB20 := Lib.hid (HB19.out.trans (hb.mono HB19.out.size))
    have FT620 := Lib.hid ha
    clear HB19  ha hb hbx
    refine wpAnyH_ready (rs := [66]) (by kernel_rfl) (by simp) (AllReadyH.cons (o := ⟨some 119, .call ⟨.value (.func 56), #[.const (.int .i64 0), .const (.int .i64 0), .const (.int .i64 1), .const (.int .i64 2)], #[3, 3, 3, 3]⟩, 44, "outright.go:40", #[⟨65, .chain⟩, ⟨64, .guard⟩], some (64, false)⟩) rfl (fun K hK => ?_) AllReadyH.nil)
    go_simp
    refine (plan_any _ _ _ _ _).mono ?_
    rintro e w21 ⟨p6, q6, rfl, hc, hk, hb⟩
    go_wp2_with fail
    refine hK.out _ _ ((keepS4 hb hS10)) (fun hS11 => ?_)
    clear hS10 hK K
    have HB21 := Lib.hid (HB20.out.trans (hb.mono HB20.out.size))
    have FT621 := Lib.hid (FT620.out.keep hb (Nat.le_refl _))
    have FC621 := Lib.hid hc
    have FK621 := Lib.hid hk
    clear HB20 FT620 hc hk hb
    refine wpAnyH_ready (rs := [67]) (by kernel_rfl) (by simp) (AllReadyH.cons (o := ⟨some 120, .call ⟨.value (.func 51), #[.tmp 118, .tmp 119], #[39, 44]⟩, 4, "outright.go:40", #[⟨65, .data⟩, ⟨66, .data⟩, ⟨66, .chain⟩, ⟨64, .guard⟩], some (64, false)⟩) rfl (fun K hK => ?_) AllReadyH.nil)
    go_simp
    have hp := nm_prove b6 p6 q6 w21 0 false nm_p2 FT621.out FC621.out FK621.out
    with_reducible refine hp.mono ?_
    clear hp
    rintro e w22 ⟨rfl, hb⟩
    go_wp2_with fail
    refine hK.out _ _ ((keepS4 hb hS11)) (fun hS12 => ?_)
    clear hS11 hK K
    have HB22 := Lib.hid (HB21.out.trans (hb.mono HB21.out.size))
    clear HB21   hb FT621 FC621 FK621
    refine tkH 68 ⟨some 121, .pick (.tmp 117) (.const (.bool true)) (.tmp 120), 4, "outright.go:40", #[⟨64, .data⟩, ⟨67, .data⟩], none⟩ (v := ?_) hS12 ?_ ?_
    rotate_left
    · intro X ⟨x0, x1, x2, x3⟩; go_simp; try with_reducible rfl
    simp only [Act.put, List.setIfInBounds_toArray, List.set_cons_zero, List.set_cons_succ, Array.toArray_toList]
    refine tkH 69 ⟨some 122, .move (.tmp 121), 4, "outright.go:40", #[⟨68, .data⟩, ⟨67, .chain⟩], none⟩ (v := ?_) hS12 ?_ ?_
    rotate_left
    · intro X ⟨x0, x1, x2, x3⟩; go_simp; try with_reducible rfl
    simp only [Act.put, List.setIfInBounds_toArray, List.set_cons_zero, List.set_cons_succ, Array.toArray_toList]
    refine wpAnyH_ready (rs := [70]) (by kernel_rfl) (by simp) (AllReadyH.cons (o := ⟨some 123, .call ⟨.value (.func 55), #[], #[]⟩, 39, "outright.go:40", #[⟨69, .chain⟩, ⟨69, .guard⟩], some (69, false)⟩) rfl (fun K hK => ?_) AllReadyH.nil)
    go_simp
    refine (tank_any _).mono ?_
    rintro e w23 ⟨b7, rfl, ha, hbx, hb⟩
    go_wp2_with fail
    refine hK.out _ _ ((keepS4 hb hS12)) (fun hS13 => ?_)
    clear hS12 hK K
    have HB23 := Lib.hid (HB22.out.trans (hb.mono HB22.out.size))
    have FT723 := Lib.hid ha
    clear HB22  ha hb hbx
    refine wpAnyH_ready (rs := [71]) (by kernel_rfl) (by simp) (AllReadyH.cons (o := ⟨some 124, .call ⟨.value (.func 56), #[.const (.int .i64 0), .const (.int .i64 3), .const (.int .i64 1), .const (.int .i64 2)], #[3, 3, 3, 3]⟩, 44, "outright.go:40", #[⟨70, .chain⟩, ⟨69, .guard⟩], some (69, false)⟩) rfl (fun K hK => ?_) AllReadyH.nil)
    go_simp
    refine (plan_any _ _ _ _ _).mono ?_
    rintro e w24 ⟨p7, q7, rfl, hc, hk, hb⟩
    go_wp2_with fail
    refine hK.out _ _ ((keepS4 hb hS13)) (fun hS14 => ?_)
    clear hS13 hK K
    have HB24 := Lib.hid (HB23.out.trans (hb.mono HB23.out.size))
    have FT724 := Lib.hid (FT723.out.keep hb (Nat.le_refl _))
    have FC724 := Lib.hid hc
    have FK724 := Lib.hid hk
    clear HB23 FT723 hc hk hb
    refine wpAnyH_ready (rs := [72]) (by kernel_rfl) (by simp) (AllReadyH.cons (o := ⟨some 125, .call ⟨.value (.func 51), #[.tmp 123, .tmp 124], #[39, 44]⟩, 4, "outright.go:40", #[⟨70, .data⟩, ⟨71, .data⟩, ⟨71, .chain⟩, ⟨69, .guard⟩], some (69, false)⟩) rfl (fun K hK => ?_) AllReadyH.nil)
    go_simp
    have hp := nm_prove b7 p7 q7 w24 3 false nm_p3 FT724.out FC724.out FK724.out
    with_reducible refine hp.mono ?_
    clear hp
    rintro e w25 ⟨rfl, hb⟩
    go_wp2_with fail
    refine hK.out _ _ ((keepS4 hb hS14)) (fun hS15 => ?_)
    clear hS14 hK K
    have HB25 := Lib.hid (HB24.out.trans (hb.mono HB24.out.size))
    clear HB24   hb FT724 FC724 FK724
    refine tkH 73 ⟨some 126, .pick (.tmp 122) (.const (.bool true)) (.tmp 125), 4, "outright.go:40", #[⟨69, .data⟩, ⟨72, .data⟩], none⟩ (v := ?_) hS15 ?_ ?_
    rotate_left
    · intro X ⟨x0, x1, x2, x3⟩; go_simp; try with_reducible rfl
    simp only [Act.put, List.setIfInBounds_toArray, List.set_cons_zero, List.set_cons_succ, Array.toArray_toList]
    refine wpAnyH_done (by kernel_rfl) ?_ _
    clear hS15
    go_wp2_with fail
    go_meet
    case rel => exact ⟨rfl, HB25.out⟩
  case rest =>
    clear r0 r1 r2 r3 FG11 FH11
    generalize wc = w12 at hcut ⊢
    obtain ⟨rfl, hb⟩ := hcut
    have HB12 := Lib.hid (HB11.out.trans (hb.mono HB11.out.size))
    clear HB11   hb 
    go_wp2_with fail
    refine (tank_blk _).mono ?_
    rintro e w13 ⟨u1, rfl, ha, hbx, hb⟩
    have hu1 : w.heap.size ≤ u1 := Nat.le_trans HB12.out.size hbx
    clear hbx
    have HB13 := Lib.hid (HB12.out.trans (hb.mono HB12.out.size))
    have FBu113 := Lib.hid ha
    clear HB12  ha hb 
    go_wp2_with fail
    refine (tank_blk _).mono ?_
    rintro e w14 ⟨u2, rfl, ha, hbx, hb⟩
    have hu2 : u1 < u2 := Nat.lt_of_lt_of_le FBu113.out.lt hbx
    clear hbx
    have HB14 := Lib.hid (HB13.out.trans (hb.mono HB13.out.size))
    have FBu114 := Lib.hid (FBu113.out.keep hb (Nat.le_refl _))
    have FBu214 := Lib.hid ha
    clear HB13 FBu113 ha hb 
    go_wp2_with fail
    refine (tank_blk _).mono ?_
    rintro e w15 ⟨u3, rfl, ha, hbx, hb⟩
    have hu3 : u2 < u3 := Nat.lt_of_lt_of_le FBu214.out.lt hbx
    clear hbx
    have HB15 := Lib.hid (HB14.out.trans (hb.mono HB14.out.size))
    have FBu115 := Lib.hid (FBu114.out.keep hb (Nat.le_refl _))
    have FBu215 := Lib.hid (FBu214.out.keep hb (Nat.le_refl _))
    have FBu315 := Lib.hid ha
    clear HB14 FBu114 FBu214 ha hb 
    go_wp2_with fail
    refine (tank_blk _).mono ?_
    rintro e w16 ⟨u4, rfl, ha, hbx, hb⟩
    have hu4 : u3 < u4 := Nat.lt_of_lt_of_le FBu315.out.lt hbx
    clear hbx
    have HB16 := Lib.hid (HB15.out.trans (hb.mono HB15.out.size))
    have FBu116 := Lib.hid (FBu115.out.keep hb (Nat.le_refl _))
    have FBu216 := Lib.hid (FBu215.out.keep hb (Nat.le_refl _))
    have FBu316 := Lib.hid (FBu315.out.keep hb (Nat.le_refl _))
    have FBu416 := Lib.hid ha
    clear HB15 FBu115 FBu215 FBu315 ha hb 
    go_wp2_with fail
    refine (tank_blk _).mono ?_
    rintro e w17 ⟨u5, rfl, ha, hbx, hb⟩
    have hu5 : u4 < u5 := Nat.lt_of_lt_of_le FBu416.out.lt hbx
    clear hbx
    have HB17 := Lib.hid (HB16.out.trans (hb.mono HB16.out.size))
    have FBu117 := Lib.hid (FBu116.out.keep hb (Nat.le_refl _))
    have FBu217 := Lib.hid (FBu216.out.keep hb (Nat.le_refl _))
    have FBu317 := Lib.hid (FBu316.out.keep hb (Nat.le_refl _))
    have FBu417 := Lib.hid (FBu416.out.keep hb (Nat.le_refl _))
    have FBu517 := Lib.hid ha
    clear HB16 FBu116 FBu216 FBu316 FBu416 ha hb 
    go_upto_region 10 with fail
    have hb : Below w17.heap.size w17 (((((w17.alloc (.cells #[.int .i64 401, .int .i64 50, .int .i64 20, .int .i64 30, .slice (some ⟨u1, 0, none⟩) 2 2] 39)).alloc (.cells #[.int .i64 100, .int .i64 0, .int .i64 20, .int .i64 30, .slice (some ⟨u2, 0, none⟩) 2 2] 39)).alloc (.cells #[.int .i64 100, .int .i64 50, .int .i64 20, .int .i64 30, .slice (some ⟨u3, 0, none⟩) 2 2] 39)).alloc (.cells #[.int .i64 100, .int .i64 50, .int .i64 20, .int .i64 30, .slice (some ⟨u4, 0, none⟩) 2 2] 39)).alloc (.cells #[.int .i64 100, .int .i64 50, .int .i64 20, .int .i64 30, .slice (some ⟨u5, 0, none⟩) 2 2] 39)) := (((((Below.refl _ _).alloc (Nat.le_refl _) _).alloc (by simp) _).alloc (by simp; omega) _).alloc (by simp; omega) _).alloc (by simp; omega) _
    have hv1 : TkAt (((((w17.alloc (.cells #[.int .i64 401, .int .i64 50, .int .i64 20, .int .i64 30, .slice (some ⟨u1, 0, none⟩) 2 2] 39)).alloc (.cells #[.int .i64 100, .int .i64 0, .int .i64 20, .int .i64 30, .slice (some ⟨u2, 0, none⟩) 2 2] 39)).alloc (.cells #[.int .i64 100, .int .i64 50, .int .i64 20, .int .i64 30, .slice (some ⟨u3, 0, none⟩) 2 2] 39)).alloc (.cells #[.int .i64 100, .int .i64 50, .int .i64 20, .int .i64 30, .slice (some ⟨u4, 0, none⟩) 2 2] 39)).alloc (.cells #[.int .i64 100, .int .i64 50, .int .i64 20, .int .i64 30, .slice (some ⟨u5, 0, none⟩) 2 2] 39)) (w17.heap.size) (.cells #[.int .i64 401, .int .i64 50, .int .i64 20, .int .i64 30, .slice (some ⟨u1, 0, none⟩) 2 2] 39 (0, 0)) := (Below.heap_alloc _ _ _ (by simp <;> omega)).trans ((Below.heap_alloc _ _ _ (by simp <;> omega)).trans ((Below.heap_alloc _ _ _ (by simp <;> omega)).trans ((Below.heap_alloc _ _ _ (by simp <;> omega)).trans (heap_new_at _ _ _ (rfl)))))
    have hv2 : TkAt (((((w17.alloc (.cells #[.int .i64 401, .int .i64 50, .int .i64 20, .int .i64 30, .slice (some ⟨u1, 0, none⟩) 2 2] 39)).alloc (.cells #[.int .i64 100, .int .i64 0, .int .i64 20, .int .i64 30, .slice (some ⟨u2, 0, none⟩) 2 2] 39)).alloc (.cells #[.int .i64 100, .int .i64 50, .int .i64 20, .int .i64 30, .slice (some ⟨u3, 0, none⟩) 2 2] 39)).alloc (.cells #[.int .i64 100, .int .i64 50, .int .i64 20, .int .i64 30, .slice (some ⟨u4, 0, none⟩) 2 2] 39)).alloc (.cells #[.int .i64 100, .int .i64 50, .int .i64 20, .int .i64 30, .slice (some ⟨u5, 0, none⟩) 2 2] 39)) (w17.heap.size + 1) (.cells #[.int .i64 100, .int .i64 0, .int .i64 20, .int .i64 30, .slice (some ⟨u2, 0, none⟩) 2 2] 39 (0, 0)) := (Below.heap_alloc _ _ _ (by simp <;> omega)).trans ((Below.heap_alloc _ _ _ (by simp <;> omega)).trans ((Below.heap_alloc _ _ _ (by simp <;> omega)).trans (heap_new_at _ _ _ (by simp))))
    have hv3 : TkAt (((((w17.alloc (.cells #[.int .i64 401, .int .i64 50, .int .i64 20, .int .i64 30, .slice (some ⟨u1, 0, none⟩) 2 2] 39)).alloc (.cells #[.int .i64 100, .int .i64 0, .int .i64 20, .int .i64 30, .slice (some ⟨u2, 0, none⟩) 2 2] 39)).alloc (.cells #[.int .i64 100, .int .i64 50, .int .i64 20, .int .i64 30, .slice (some ⟨u3, 0, none⟩) 2 2] 39)).alloc (.cells #[.int .i64 100, .int .i64 50, .int .i64 20, .int .i64 30, .slice (some ⟨u4, 0, none⟩) 2 2] 39)).alloc (.cells #[.int .i64 100, .int .i64 50, .int .i64 20, .int .i64 30, .slice (some ⟨u5, 0, none⟩) 2 2] 39)) (w17.heap.size + 1 + 1) (.cells #[.int .i64 100, .int .i64 50, .int .i64 20, .int .i64 30, .slice (some ⟨u3, 0, none⟩) 2 2] 39 (0, 0)) := (Below.heap_alloc _ _ _ (by simp <;> omega)).trans ((Below.heap_alloc _ _ _ (by simp <;> omega)).trans (heap_new_at _ _ _ (by simp)))
    have hv4 : TkAt (((((w17.alloc (.cells #[.int .i64 401, .int .i64 50, .int .i64 20, .int .i64 30, .slice (some ⟨u1, 0, none⟩) 2 2] 39)).alloc (.cells #[.int .i64 100, .int .i64 0, .int .i64 20, .int .i64 30, .slice (some ⟨u2, 0, none⟩) 2 2] 39)).alloc (.cells #[.int .i64 100, .int .i64 50, .int .i64 20, .int .i64 30, .slice (some ⟨u3, 0, none⟩) 2 2] 39)).alloc (.cells #[.int .i64 100, .int .i64 50, .int .i64 20, .int .i64 30, .slice (some ⟨u4, 0, none⟩) 2 2] 39)).alloc (.cells #[.int .i64 100, .int .i64 50, .int .i64 20, .int .i64 30, .slice (some ⟨u5, 0, none⟩) 2 2] 39)) (w17.heap.size + 1 + 1 + 1) (.cells #[.int .i64 100, .int .i64 50, .int .i64 20, .int .i64 30, .slice (some ⟨u4, 0, none⟩) 2 2] 39 (0, 0)) := (Below.heap_alloc _ _ _ (by simp <;> omega)).trans (heap_new_at _ _ _ (by simp))
    have hv5 : TkAt (((((w17.alloc (.cells #[.int .i64 401, .int .i64 50, .int .i64 20, .int .i64 30, .slice (some ⟨u1, 0, none⟩) 2 2] 39)).alloc (.cells #[.int .i64 100, .int .i64 0, .int .i64 20, .int .i64 30, .slice (some ⟨u2, 0, none⟩) 2 2] 39)).alloc (.cells #[.int .i64 100, .int .i64 50, .int .i64 20, .int .i64 30, .slice (some ⟨u3, 0, none⟩) 2 2] 39)).alloc (.cells #[.int .i64 100, .int .i64 50, .int .i64 20, .int .i64 30, .slice (some ⟨u4, 0, none⟩) 2 2] 39)).alloc (.cells #[.int .i64 100, .int .i64 50, .int .i64 20, .int .i64 30, .slice (some ⟨u5, 0, none⟩) 2 2] 39)) (w17.heap.size + 1 + 1 + 1 + 1) (.cells #[.int .i64 100, .int .i64 50, .int .i64 20, .int .i64 30, .slice (some ⟨u5, 0, none⟩) 2 2] 39 (0, 0)) := heap_new_at _ _ _ (by simp)
    have hu6 : u5 < w17.heap.size := FBu517.out.lt
    generalize (((((w17.alloc (.cells #[.int .i64 401, .int .i64 50, .int .i64 20, .int .i64 30, .slice (some ⟨u1, 0, none⟩) 2 2] 39)).alloc (.cells #[.int .i64 100, .int .i64 0, .int .i64 20, .int .i64 30, .slice (some ⟨u2, 0, none⟩) 2 2] 39)).alloc (.cells #[.int .i64 100, .int .i64 50, .int .i64 20, .int .i64 30, .slice (some ⟨u3, 0, none⟩) 2 2] 39)).alloc (.cells #[.int .i64 100, .int .i64 50, .int .i64 20, .int .i64 30, .slice (some ⟨u4, 0, none⟩) 2 2] 39)).alloc (.cells #[.int .i64 100, .int .i64 50, .int .i64 20, .int .i64 30, .slice (some ⟨u5, 0, none⟩) 2 2] 39)) = w18 at hb hv1 hv2 hv3 hv4 hv5 ⊢
    obtain ⟨v5, hw5⟩ : ∃ v, w17.heap.size + 1 + 1 + 1 + 1 = v := ⟨_, rfl⟩
    obtain ⟨v4, hw4⟩ : ∃ v, w17.heap.size + 1 + 1 + 1 = v := ⟨_, rfl⟩
    obtain ⟨v3, hw3⟩ : ∃ v, w17.heap.size + 1 + 1 = v := ⟨_, rfl⟩
    obtain ⟨v2, hw2⟩ : ∃ v, w17.heap.size + 1 = v := ⟨_, rfl⟩
    obtain ⟨v1, hw1⟩ : ∃ v, w17.heap.size = v := ⟨_, rfl⟩
    have ho2 : v1 < v2 := by omega
    have ho3 : v2 < v3 := by omega
    have ho4 : v3 < v4 := by omega
    have ho5 : v4 < v5 := by omega
    have ho1 : u5 < v1 := by omega
    rw [hw5] at hv5 ⊢
    rw [hw4] at hv4 ⊢
    rw [hw3] at hv3 ⊢
    rw [hw2] at hv2 ⊢
    rw [hw1] at hv1 ⊢
    clear hu6 hw1 hw2 hw3 hw4 hw5
    have HB18 := Lib.hid (HB17.out.trans (hb.mono HB17.out.size))
    have FBu118 := Lib.hid (FBu117.out.keep hb (Nat.le_refl _))
    have FBu218 := Lib.hid (FBu217.out.keep hb (Nat.le_refl _))
    have FBu318 := Lib.hid (FBu317.out.keep hb (Nat.le_refl _))
    have FBu418 := Lib.hid (FBu417.out.keep hb (Nat.le_refl _))
    have FBu518 := Lib.hid (FBu517.out.keep hb (Nat.le_refl _))
    have FBv118 := Lib.hid hv1
    have FBv218 := Lib.hid hv2
    have FBv318 := Lib.hid hv3
    have FBv418 := Lib.hid hv4
    have FBv518 := Lib.hid hv5
    clear HB17 FBu117 FBu217 FBu317 FBu417 FBu517 hv1 hv2 hv3 hv4 hv5 hb 
    go_wp2_with fail
    refine (between_any _ _ _).mono ?_
    rintro e w19 ⟨rfl, hb⟩
    have HB19 := Lib.hid (HB18.out.trans (hb.mono HB18.out.size))
    have FBu119 := Lib.hid (FBu118.out.keep hb (Nat.le_refl _))
    have FBu219 := Lib.hid (FBu218.out.keep hb (Nat.le_refl _))
    have FBu319 := Lib.hid (FBu318.out.keep hb (Nat.le_refl _))
    have FBu419 := Lib.hid (FBu418.out.keep hb (Nat.le_refl _))
    have FBu519 := Lib.hid (FBu518.out.keep hb (Nat.le_refl _))
    have FBv119 := Lib.hid (FBv118.out.keep hb (Nat.le_refl _))
    have FBv219 := Lib.hid (FBv218.out.keep hb (Nat.le_refl _))
    have FBv319 := Lib.hid (FBv318.out.keep hb (Nat.le_refl _))
    have FBv419 := Lib.hid (FBv418.out.keep hb (Nat.le_refl _))
    have FBv519 := Lib.hid (FBv518.out.keep hb (Nat.le_refl _))
    clear HB18 FBu118 FBu218 FBu318 FBu418 FBu518 FBv118 FBv218 FBv318 FBv418 FBv518  hb 
    have ccv3_2 : w19.cell? ⟨v3, 2, none⟩ = some (.int .i64 20) := FBv319.out.cell 2 (by rfl)
    have czv3_2 : w19.frozen? ⟨v3, 2, none⟩ = false := FBv319.out.soft 2
    have ccv3_3 : w19.cell? ⟨v3, 3, none⟩ = some (.int .i64 30) := FBv319.out.cell 3 (by rfl)
    have czv3_3 : w19.frozen? ⟨v3, 3, none⟩ = false := FBv319.out.soft 3
    go_upto_region 11 with fail
    clear ccv3_2 czv3_2 ccv3_3 czv3_3
    have HB20 := Lib.hid ((HB19.out.setCell (p := ⟨v3, 2, none⟩) (show w.heap.size ≤ v3 by omega) (.int .i64 20)).setCell (p := ⟨v3, 3, none⟩) (show w.heap.size ≤ v3 by omega) (.int .i64 101))
    have FBu120 := Lib.hid ((FBu119.out.other (p := ⟨v3, 2, none⟩) (show u1 ≠ v3 by omega) (.int .i64 20)).other (p := ⟨v3, 3, none⟩) (show u1 ≠ v3 by omega) (.int .i64 101))
    have FBu220 := Lib.hid ((FBu219.out.other (p := ⟨v3, 2, none⟩) (show u2 ≠ v3 by omega) (.int .i64 20)).other (p := ⟨v3, 3, none⟩) (show u2 ≠ v3 by omega) (.int .i64 101))
    have FBu320 := Lib.hid ((FBu319.out.other (p := ⟨v3, 2, none⟩) (show u3 ≠ v3 by omega) (.int .i64 20)).other (p := ⟨v3, 3, none⟩) (show u3 ≠ v3 by omega) (.int .i64 101))
    have FBu420 := Lib.hid ((FBu419.out.other (p := ⟨v3, 2, none⟩) (show u4 ≠ v3 by omega) (.int .i64 20)).other (p := ⟨v3, 3, none⟩) (show u4 ≠ v3 by omega) (.int .i64 101))
    have FBu520 := Lib.hid ((FBu519.out.other (p := ⟨v3, 2, none⟩) (show u5 ≠ v3 by omega) (.int .i64 20)).other (p := ⟨v3, 3, none⟩) (show u5 ≠ v3 by omega) (.int .i64 101))
    have FBv120 := Lib.hid ((FBv119.out.other (p := ⟨v3, 2, none⟩) (show v1 ≠ v3 by omega) (.int .i64 20)).other (p := ⟨v3, 3, none⟩) (show v1 ≠ v3 by omega) (.int .i64 101))
    have FBv220 := Lib.hid ((FBv219.out.other (p := ⟨v3, 2, none⟩) (show v2 ≠ v3 by omega) (.int .i64 20)).other (p := ⟨v3, 3, none⟩) (show v2 ≠ v3 by omega) (.int .i64 101))
    have hn := ((FBv319.out.set 2 (.int .i64 20)).set 3 (.int .i64 101))
    have FBv320 := Lib.hid (show TkAt ((w19.setCell ⟨v3, 2, none⟩ (.int .i64 20)).setCell ⟨v3, 3, none⟩ (.int .i64 101)) v3 (.cells #[.int .i64 100, .int .i64 50, .int .i64 20, .int .i64 101, .slice (some ⟨u3, 0, none⟩) 2 2] 39 (0, 0)) from hn)
    clear hn
    have FBv420 := Lib.hid ((FBv419.out.other (p := ⟨v3, 2, none⟩) (show v4 ≠ v3 by omega) (.int .i64 20)).other (p := ⟨v3, 3, none⟩) (show v4 ≠ v3 by omega) (.int .i64 101))
    have FBv520 := Lib.hid ((FBv519.out.other (p := ⟨v3, 2, none⟩) (show v5 ≠ v3 by omega) (.int .i64 20)).other (p := ⟨v3, 3, none⟩) (show v5 ≠ v3 by omega) (.int .i64 101))
    clear HB19 FBu119 FBu219 FBu319 FBu419 FBu519 FBv119 FBv219 FBv319 FBv419 FBv519
    generalize ((w19.setCell ⟨v3, 2, none⟩ (.int .i64 20)).setCell ⟨v3, 3, none⟩ (.int .i64 101)) = w20 at HB20 FBu120 FBu220 FBu320 FBu420 FBu520 FBv120 FBv220 FBv320 FBv420 FBv520 ⊢
    have ccv4_4 : w20.cell? ⟨v4, 4, none⟩ = some (.slice (some ⟨u4, 0, none⟩) 2 2) := FBv420.out.cell 4 (by rfl)
    have ccu4_0 : w20.cell? ⟨u4, 0, none⟩ = some (.int .i64 5) := FBu420.out.cell 0 (by rfl)
    have czu4_0 : w20.frozen? ⟨u4, 0, none⟩ = false := FBu420.out.soft 0
    go_upto_region 12 with fail
    clear ccv4_4
    clear ccu4_0 czu4_0
    have HB21 := Lib.hid (HB20.out.setCell (p := ⟨u4, 0, none⟩) (show w.heap.size ≤ u4 by omega) (.int .i64 15))
    have FBu121 := Lib.hid (FBu120.out.other (p := ⟨u4, 0, none⟩) (show u1 ≠ u4 by omega) (.int .i64 15))
    have FBu221 := Lib.hid (FBu220.out.other (p := ⟨u4, 0, none⟩) (show u2 ≠ u4 by omega) (.int .i64 15))
    have FBu321 := Lib.hid (FBu320.out.other (p := ⟨u4, 0, none⟩) (show u3 ≠ u4 by omega) (.int .i64 15))
    have hn := (FBu420.out.set 0 (.int .i64 15))
    have FBu421 := Lib.hid (show TkAt (w20.setCell ⟨u4, 0, none⟩ (.int .i64 15)) u4 (.cells #[.int .i64 15, .int .i64 1, .int .i64 3, .int .i64 2, .int .i64 3, .int .i64 4, .int .i64 1, .int .i64 2, .int .i64 2, .int .i64 2] 105 (0, 0)) from hn)
    clear hn
    have FBu521 := Lib.hid (FBu520.out.other (p := ⟨u4, 0, none⟩) (show u5 ≠ u4 by omega) (.int .i64 15))
    have FBv121 := Lib.hid (FBv120.out.other (p := ⟨u4, 0, none⟩) (show v1 ≠ u4 by omega) (.int .i64 15))
    have FBv221 := Lib.hid (FBv220.out.other (p := ⟨u4, 0, none⟩) (show v2 ≠ u4 by omega) (.int .i64 15))
    have FBv321 := Lib.hid (FBv320.out.other (p := ⟨u4, 0, none⟩) (show v3 ≠ u4 by omega) (.int .i64 15))
    have FBv421 := Lib.hid (FBv420.out.other (p := ⟨u4, 0, none⟩) (show v4 ≠ u4 by omega) (.int .i64 15))
    have FBv521 := Lib.hid (FBv520.out.other (p := ⟨u4, 0, none⟩) (show v5 ≠ u4 by omega) (.int .i64 15))
    clear HB20 FBu120 FBu220 FBu320 FBu420 FBu520 FBv120 FBv220 FBv320 FBv420 FBv520
    generalize (w20.setCell ⟨u4, 0, none⟩ (.int .i64 15)) = w21 at HB21 FBu121 FBu221 FBu321 FBu421 FBu521 FBv121 FBv221 FBv321 FBv421 FBv521 ⊢
    have ccv5_4 : w21.cell? ⟨v5, 4, none⟩ = some (.slice (some ⟨u5, 0, none⟩) 2 2) := FBv521.out.cell 4 (by rfl)
    have ccu5_1 : w21.cell? ⟨u5, 1, none⟩ = some (.int .i64 1) := FBu521.out.cell 1 (by rfl)
    have czu5_1 : w21.frozen? ⟨u5, 1, none⟩ = false := FBu521.out.soft 1
    go_upto_region 13 with fail
    clear ccv5_4
    clear ccu5_1 czu5_1
    have HB22 := Lib.hid (HB21.out.setCell (p := ⟨u5, 1, none⟩) (show w.heap.size ≤ u5 by omega) (.int .i64 4))
    have FBu122 := Lib.hid (FBu121.out.other (p := ⟨u5, 1, none⟩) (show u1 ≠ u5 by omega) (.int .i64 4))
    have FBu222 := Lib.hid (FBu221.out.other (p := ⟨u5, 1, none⟩) (show u2 ≠ u5 by omega) (.int .i64 4))
    have FBu322 := Lib.hid (FBu321.out.other (p := ⟨u5, 1, none⟩) (show u3 ≠ u5 by omega) (.int .i64 4))
    have FBu422 := Lib.hid (FBu421.out.other (p := ⟨u5, 1, none⟩) (show u4 ≠ u5 by omega) (.int .i64 4))
    have hn := (FBu521.out.set 1 (.int .i64 4))
    have FBu522 := Lib.hid (show TkAt (w21.setCell ⟨u5, 1, none⟩ (.int .i64 4)) u5 (.cells #[.int .i64 5, .int .i64 4, .int .i64 3, .int .i64 2, .int .i64 3, .int .i64 4, .int .i64 1, .int .i64 2, .int .i64 2, .int .i64 2] 105 (0, 0)) from hn)
    clear hn
    have FBv122 := Lib.hid (FBv121.out.other (p := ⟨u5, 1, none⟩) (show v1 ≠ u5 by omega) (.int .i64 4))
    have FBv222 := Lib.hid (FBv221.out.other (p := ⟨u5, 1, none⟩) (show v2 ≠ u5 by omega) (.int .i64 4))
    have FBv322 := Lib.hid (FBv321.out.other (p := ⟨u5, 1, none⟩) (show v3 ≠ u5 by omega) (.int .i64 4))
    have FBv422 := Lib.hid (FBv421.out.other (p := ⟨u5, 1, none⟩) (show v4 ≠ u5 by omega) (.int .i64 4))
    have FBv522 := Lib.hid (FBv521.out.other (p := ⟨u5, 1, none⟩) (show v5 ≠ u5 by omega) (.int .i64 4))
    clear HB21 FBu121 FBu221 FBu321 FBu421 FBu521 FBv121 FBv221 FBv321 FBv421 FBv521
    generalize (w21.setCell ⟨u5, 1, none⟩ (.int .i64 4)) = w22 at HB22 FBu122 FBu222 FBu322 FBu422 FBu522 FBv122 FBv222 FBv322 FBv422 FBv522 ⊢
    go_wp2_with fail
    refine (tank_any _).mono ?_
    rintro e w23 ⟨b8, rfl, ha, hbx, hb⟩
    clear hbx
    have HB23 := Lib.hid (HB22.out.trans (hb.mono HB22.out.size))
    have FBu123 := Lib.hid (FBu122.out.keep hb (Nat.le_refl _))
    have FBu223 := Lib.hid (FBu222.out.keep hb (Nat.le_refl _))
    have FBu323 := Lib.hid (FBu322.out.keep hb (Nat.le_refl _))
    have FBu423 := Lib.hid (FBu422.out.keep hb (Nat.le_refl _))
    have FBu523 := Lib.hid (FBu522.out.keep hb (Nat.le_refl _))
    have FBv123 := Lib.hid (FBv122.out.keep hb (Nat.le_refl _))
    have FBv223 := Lib.hid (FBv222.out.keep hb (Nat.le_refl _))
    have FBv323 := Lib.hid (FBv322.out.keep hb (Nat.le_refl _))
    have FBv423 := Lib.hid (FBv422.out.keep hb (Nat.le_refl _))
    have FBv523 := Lib.hid (FBv522.out.keep hb (Nat.le_refl _))
    have FT823 := Lib.hid ha
    clear HB22 FBu122 FBu222 FBu322 FBu422 FBu522 FBv122 FBv222 FBv322 FBv422 FBv522 ha hb 
    clear FT823
    have hmk7 : ∀ W : World, (Instr.makeSlice 37 (.int .i64 7) (.int .i64 7)).run Try.prog W = .ok (.slice (some ⟨W.heap.size, 0, none⟩) 7 7) (W.alloc (.cells #[.int .i64 0, .int .i64 0, .int .i64 0, .int .i64 0, .int .i64 0, .int .i64 0, .int .i64 0, .int .i64 0, .int .i64 0, .int .i64 0, .int .i64 0, .int .i64 0, .int .i64 0, .int .i64 0, .int .i64 0, .int .i64 0, .int .i64 0, .int .i64 0, .int .i64 0, .int .i64 0, .int .i64 0, .int .i64 0, .int .i64 0, .int .i64 0, .int .i64 0, .int .i64 0, .int .i64 0, .int .i64 0, .int .i64 0, .int .i64 0, .int .i64 0, .int .i64 0, .int .i64 0, .int .i64 0, .int .i64 0] 105)) := fun _ => by kernel_rfl
    go_upto_region 15 with fail
    have hb : Below w23.heap.size w23 ((w23.alloc (.cells #[.int .i64 100, .int .i64 50, .int .i64 20, .int .i64 30, .slice (some ⟨w23.heap.size + 1, 0, none⟩) 7 7] 39)).alloc (.cells #[.int .i64 0, .int .i64 0, .int .i64 0, .int .i64 0, .int .i64 0, .int .i64 0, .int .i64 0, .int .i64 0, .int .i64 0, .int .i64 0, .int .i64 0, .int .i64 0, .int .i64 0, .int .i64 0, .int .i64 0, .int .i64 0, .int .i64 0, .int .i64 0, .int .i64 0, .int .i64 0, .int .i64 0, .int .i64 0, .int .i64 0, .int .i64 0, .int .i64 0, .int .i64 0, .int .i64 0, .int .i64 0, .int .i64 0, .int .i64 0, .int .i64 0, .int .i64 0, .int .i64 0, .int .i64 0, .int .i64 0] 105)) := ((Below.refl _ _).alloc (Nat.le_refl _) _).alloc (by simp) _
    have hv6 : TkAt ((w23.alloc (.cells #[.int .i64 100, .int .i64 50, .int .i64 20, .int .i64 30, .slice (some ⟨w23.heap.size + 1, 0, none⟩) 7 7] 39)).alloc (.cells #[.int .i64 0, .int .i64 0, .int .i64 0, .int .i64 0, .int .i64 0, .int .i64 0, .int .i64 0, .int .i64 0, .int .i64 0, .int .i64 0, .int .i64 0, .int .i64 0, .int .i64 0, .int .i64 0, .int .i64 0, .int .i64 0, .int .i64 0, .int .i64 0, .int .i64 0, .int .i64 0, .int .i64 0, .int .i64 0, .int .i64 0, .int .i64 0, .int .i64 0, .int .i64 0, .int .i64 0, .int .i64 0, .int .i64 0, .int .i64 0, .int .i64 0, .int .i64 0, .int .i64 0, .int .i64 0, .int .i64 0] 105)) w23.heap.size (.cells #[.int .i64 100, .int .i64 50, .int .i64 20, .int .i64 30, .slice (some ⟨w23.heap.size + 1, 0, none⟩) 7 7] 39 (0, 0)) := (Below.heap_alloc _ _ _ (by simp <;> omega)).trans (heap_new_at _ _ _ rfl)
    have hz6 : TkAt ((w23.alloc (.cells #[.int .i64 100, .int .i64 50, .int .i64 20, .int .i64 30, .slice (some ⟨w23.heap.size + 1, 0, none⟩) 7 7] 39)).alloc (.cells #[.int .i64 0, .int .i64 0, .int .i64 0, .int .i64 0, .int .i64 0, .int .i64 0, .int .i64 0, .int .i64 0, .int .i64 0, .int .i64 0, .int .i64 0, .int .i64 0, .int .i64 0, .int .i64 0, .int .i64 0, .int .i64 0, .int .i64 0, .int .i64 0, .int .i64 0, .int .i64 0, .int .i64 0, .int .i64 0, .int .i64 0, .int .i64 0, .int .i64 0, .int .i64 0, .int .i64 0, .int .i64 0, .int .i64 0, .int .i64 0, .int .i64 0, .int .i64 0, .int .i64 0, .int .i64 0, .int .i64 0] 105)) (w23.heap.size + 1) (.cells #[.int .i64 0, .int .i64 0, .int .i64 0, .int .i64 0, .int .i64 0, .int .i64 0, .int .i64 0, .int .i64 0, .int .i64 0, .int .i64 0, .int .i64 0, .int .i64 0, .int .i64 0, .int .i64 0, .int .i64 0, .int .i64 0, .int .i64 0, .int .i64 0, .int .i64 0, .int .i64 0, .int .i64 0, .int .i64 0, .int .i64 0, .int .i64 0, .int .i64 0, .int .i64 0, .int .i64 0, .int .i64 0, .int .i64 0, .int .i64 0, .int .i64 0, .int .i64 0, .int .i64 0, .int .i64 0, .int .i64 0] 105 (0, 0)) := heap_new_at _ _ _ (by simp)
    generalize ((w23.alloc (.cells #[.int .i64 100, .int .i64 50, .int .i64 20, .int .i64 30, .slice (some ⟨w23.heap.size + 1, 0, none⟩) 7 7] 39)).alloc (.cells #[.int .i64 0, .int .i64 0, .int .i64 0, .int .i64 0, .int .i64 0, .int .i64 0, .int .i64 0, .int .i64 0, .int .i64 0, .int .i64 0, .int .i64 0, .int .i64 0, .int .i64 0, .int .i64 0, .int .i64 0, .int .i64 0, .int .i64 0, .int .i64 0, .int .i64 0, .int .i64 0, .int .i64 0, .int .i64 0, .int .i64 0, .int .i64 0, .int .i64 0, .int .i64 0, .int .i64 0, .int .i64 0, .int .i64 0, .int .i64 0, .int .i64 0, .int .i64 0, .int .i64 0, .int .i64 0, .int .i64 0] 105)) = w24 at hb hv6 hz6 ⊢
    obtain ⟨u6, hw6⟩ : ∃ u, w23.heap.size + 1 = u := ⟨_, rfl⟩
    obtain ⟨v6, hw7⟩ : ∃ v, w23.heap.size = v := ⟨_, rfl⟩
    rw [hw6] at hv6 hz6 ⊢
    rw [hw7] at hv6 ⊢
    clear hw6 hw7 hmk7 ho1 ho2 ho3 ho4 ho5 hu1 hu2 hu3 hu4 hu5
    have HB24 := Lib.hid (HB23.out.trans (hb.mono HB23.out.size))
    have FBu124 := Lib.hid (FBu123.out.keep hb (Nat.le_refl _))
    have FBu224 := Lib.hid (FBu223.out.keep hb (Nat.le_refl _))
    have FBu324 := Lib.hid (FBu323.out.keep hb (Nat.le_refl _))
    have FBu424 := Lib.hid (FBu423.out.keep hb (Nat.le_refl _))
    have FBu524 := Lib.hid (FBu523.out.keep hb (Nat.le_refl _))
    have FBv124 := Lib.hid (FBv123.out.keep hb (Nat.le_refl _))
    have FBv224 := Lib.hid (FBv223.out.keep hb (Nat.le_refl _))
    have FBv324 := Lib.hid (FBv323.out.keep hb (Nat.le_refl _))
    have FBv424 := Lib.hid (FBv423.out.keep hb (Nat.le_refl _))
    have FBv524 := Lib.hid (FBv523.out.keep hb (Nat.le_refl _))
    have FBv624 := Lib.hid hv6
    have FBu624 := Lib.hid hz6
    clear HB23 FBu123 FBu223 FBu323 FBu423 FBu523 FBv123 FBv223 FBv323 FBv423 FBv523 hv6 hz6 hb 
    go_wp2_with fail
    refine (tank_any _).mono ?_
    rintro e w25 ⟨b9, rfl, ha, hbx, hb⟩
    clear hbx
    have HB25 := Lib.hid (HB24.out.trans (hb.mono HB24.out.size))
    have FBu125 := Lib.hid (FBu124.out.keep hb (Nat.le_refl _))
    have FBu225 := Lib.hid (FBu224.out.keep hb (Nat.le_refl _))
    have FBu325 := Lib.hid (FBu324.out.keep hb (Nat.le_refl _))
    have FBu425 := Lib.hid (FBu424.out.keep hb (Nat.le_refl _))
    have FBu525 := Lib.hid (FBu524.out.keep hb (Nat.le_refl _))
    have FBv125 := Lib.hid (FBv124.out.keep hb (Nat.le_refl _))
    have FBv225 := Lib.hid (FBv224.out.keep hb (Nat.le_refl _))
    have FBv325 := Lib.hid (FBv324.out.keep hb (Nat.le_refl _))
    have FBv425 := Lib.hid (FBv424.out.keep hb (Nat.le_refl _))
    have FBv525 := Lib.hid (FBv524.out.keep hb (Nat.le_refl _))
    have FBv625 := Lib.hid (FBv624.out.keep hb (Nat.le_refl _))
    have FBu625 := Lib.hid (FBu624.out.keep hb (Nat.le_refl _))
    have FT925 := Lib.hid ha
    clear HB24 FBu124 FBu224 FBu324 FBu424 FBu524 FBv124 FBv224 FBv324 FBv424 FBv524 FBv624 FBu624 ha hb 
    have hp := nm_trim0 b9 w25.heap.size (w25.alloc (.cells #[.int .i64 0, .int .i64 0] 3)) (FT925.out.keep ((Below.refl _ _).alloc (Nat.le_refl _) _) (Nat.le_refl _)) (ints_new w25 [0, 0])
    have HP := Lib.hid hp
    clear hp
    go_wp2_with fail
    refine HP.out.mono ?_
    clear HP
    rintro e w26 ⟨rfl, hb0⟩
    have hb : Below w25.heap.size w25 w26 := ((Below.refl _ _).alloc (Nat.le_refl _) (.cells #[.int .i64 0, .int .i64 0] 3)).trans (hb0.mono (by simp))
    clear hb0
    have HB26 := Lib.hid (HB25.out.trans (hb.mono HB25.out.size))
    have FBu126 := Lib.hid (FBu125.out.keep hb (Nat.le_refl _))
    have FBu226 := Lib.hid (FBu225.out.keep hb (Nat.le_refl _))
    have FBu326 := Lib.hid (FBu325.out.keep hb (Nat.le_refl _))
    have FBu426 := Lib.hid (FBu425.out.keep hb (Nat.le_refl _))
    have FBu526 := Lib.hid (FBu525.out.keep hb (Nat.le_refl _))
    have FBv126 := Lib.hid (FBv125.out.keep hb (Nat.le_refl _))
    have FBv226 := Lib.hid (FBv225.out.keep hb (Nat.le_refl _))
    have FBv326 := Lib.hid (FBv325.out.keep hb (Nat.le_refl _))
    have FBv426 := Lib.hid (FBv425.out.keep hb (Nat.le_refl _))
    have FBv526 := Lib.hid (FBv525.out.keep hb (Nat.le_refl _))
    have FBv626 := Lib.hid (FBv625.out.keep hb (Nat.le_refl _))
    have FBu626 := Lib.hid (FBu625.out.keep hb (Nat.le_refl _))
    have FT926 := Lib.hid (FT925.out.keep hb (Nat.le_refl _))
    clear HB25 FBu125 FBu225 FBu325 FBu425 FBu525 FBv125 FBv225 FBv325 FBv425 FBv525 FBv625 FBu625 FT925  hb 
    clear FT926
    go_wp2_with fail
    refine (tank_any _).mono ?_
    rintro e w27 ⟨b10, rfl, ha, hbx, hb⟩
    clear hbx
    have HB27 := Lib.hid (HB26.out.trans (hb.mono HB26.out.size))
    have FBu127 := Lib.hid (FBu126.out.keep hb (Nat.le_refl _))
    have FBu227 := Lib.hid (FBu226.out.keep hb (Nat.le_refl _))
    have FBu327 := Lib.hid (FBu326.out.keep hb (Nat.le_refl _))
    have FBu427 := Lib.hid (FBu426.out.keep hb (Nat.le_refl _))
    have FBu527 := Lib.hid (FBu526.out.keep hb (Nat.le_refl _))
    have FBv127 := Lib.hid (FBv126.out.keep hb (Nat.le_refl _))
    have FBv227 := Lib.hid (FBv226.out.keep hb (Nat.le_refl _))
    have FBv327 := Lib.hid (FBv326.out.keep hb (Nat.le_refl _))
    have FBv427 := Lib.hid (FBv426.out.keep hb (Nat.le_refl _))
    have FBv527 := Lib.hid (FBv526.out.keep hb (Nat.le_refl _))
    have FBv627 := Lib.hid (FBv626.out.keep hb (Nat.le_refl _))
    have FBu627 := Lib.hid (FBu626.out.keep hb (Nat.le_refl _))
    have FT1027 := Lib.hid ha
    clear HB26 FBu126 FBu226 FBu326 FBu426 FBu526 FBv126 FBv226 FBv326 FBv426 FBv526 FBv626 FBu626 ha hb 
    go_wp2_with fail
    refine (plan_any _ _ _ _ _).mono ?_
    rintro e w28 ⟨p10, q10, rfl, hc, hk, hb⟩
    have HB28 := Lib.hid (HB27.out.trans (hb.mono HB27.out.size))
    have FBu128 := Lib.hid (FBu127.out.keep hb (Nat.le_refl _))
    have FBu228 := Lib.hid (FBu227.out.keep hb (Nat.le_refl _))
    have FBu328 := Lib.hid (FBu327.out.keep hb (Nat.le_refl _))
    have FBu428 := Lib.hid (FBu427.out.keep hb (Nat.le_refl _))
    have FBu528 := Lib.hid (FBu527.out.keep hb (Nat.le_refl _))
    have FBv128 := Lib.hid (FBv127.out.keep hb (Nat.le_refl _))
    have FBv228 := Lib.hid (FBv227.out.keep hb (Nat.le_refl _))
    have FBv328 := Lib.hid (FBv327.out.keep hb (Nat.le_refl _))
    have FBv428 := Lib.hid (FBv427.out.keep hb (Nat.le_refl _))
    have FBv528 := Lib.hid (FBv527.out.keep hb (Nat.le_refl _))
    have FBv628 := Lib.hid (FBv627.out.keep hb (Nat.le_refl _))
    have FBu628 := Lib.hid (FBu627.out.keep hb (Nat.le_refl _))
    have FT1028 := Lib.hid (FT1027.out.keep hb (Nat.le_refl _))
    have FC1028 := Lib.hid hc
    have FK1028 := Lib.hid hk
    clear HB27 FBu127 FBu227 FBu327 FBu427 FBu527 FBv127 FBv227 FBv327 FBv427 FBv527 FBv627 FBu627 FT1027 hc hk hb 
    go_wp2_with fail
    refine (between_any _ _ _).mono ?_
    rintro e w29 ⟨rfl, hb⟩
    have HB29 := Lib.hid (HB28.out.trans (hb.mono HB28.out.size))
    have FBu129 := Lib.hid (FBu128.out.keep hb (Nat.le_refl _))
    have FBu229 := Lib.hid (FBu228.out.keep hb (Nat.le_refl _))
    have FBu329 := Lib.hid (FBu328.out.keep hb (Nat.le_refl _))
    have FBu429 := Lib.hid (FBu428.out.keep hb (Nat.le_refl _))
    have FBu529 := Lib.hid (FBu528.out.keep hb (Nat.le_refl _))
    have FBv129 := Lib.hid (FBv128.out.keep hb (Nat.le_refl _))
    have FBv229 := Lib.hid (FBv228.out.keep hb (Nat.le_refl _))
    have FBv329 := Lib.hid (FBv328.out.keep hb (Nat.le_refl _))
    have FBv429 := Lib.hid (FBv428.out.keep hb (Nat.le_refl _))
    have FBv529 := Lib.hid (FBv528.out.keep hb (Nat.le_refl _))
    have FBv629 := Lib.hid (FBv628.out.keep hb (Nat.le_refl _))
    have FBu629 := Lib.hid (FBu628.out.keep hb (Nat.le_refl _))
    have FT1029 := Lib.hid (FT1028.out.keep hb (Nat.le_refl _))
    have FC1029 := Lib.hid (FC1028.out.keep hb (Nat.le_refl _))
    have FK1029 := Lib.hid (FK1028.out.keep hb (Nat.le_refl _))
    clear HB28 FBu128 FBu228 FBu328 FBu428 FBu528 FBv128 FBv228 FBv328 FBv428 FBv528 FBv628 FBu628 FT1028 FC1028 FK1028  hb 
    have hp := nm_oil2 b10 p10 q10 w29.heap.size (w29.alloc (.cells #[.int .i64 0, .int .i64 0, .int .i64 4] 103)) (FT1029.out.keep ((Below.refl _ _).alloc (Nat.le_refl _) _) (Nat.le_refl _)) (FC1029.out.keep ((Below.refl _ _).alloc (Nat.le_refl _) _) (Nat.le_refl _)) (FK1029.out.keep ((Below.refl _ _).alloc (Nat.le_refl _) _) (Nat.le_refl _)) (dip_new w29 0 0 4)
    have HP := Lib.hid hp
    clear hp
    go_wp2_with fail
    refine HP.out.mono ?_
    clear HP
    rintro e w30 ⟨rfl, hb0⟩
    have hb : Below w29.heap.size w29 w30 := ((Below.refl _ _).alloc (Nat.le_refl _) (.cells #[.int .i64 0, .int .i64 0, .int .i64 4] 103)).trans (hb0.mono (by simp))
    clear hb0
    have HB30 := Lib.hid (HB29.out.trans (hb.mono HB29.out.size))
    have FBu130 := Lib.hid (FBu129.out.keep hb (Nat.le_refl _))
    have FBu230 := Lib.hid (FBu229.out.keep hb (Nat.le_refl _))
    have FBu330 := Lib.hid (FBu329.out.keep hb (Nat.le_refl _))
    have FBu430 := Lib.hid (FBu429.out.keep hb (Nat.le_refl _))
    have FBu530 := Lib.hid (FBu529.out.keep hb (Nat.le_refl _))
    have FBv130 := Lib.hid (FBv129.out.keep hb (Nat.le_refl _))
    have FBv230 := Lib.hid (FBv229.out.keep hb (Nat.le_refl _))
    have FBv330 := Lib.hid (FBv329.out.keep hb (Nat.le_refl _))
    have FBv430 := Lib.hid (FBv429.out.keep hb (Nat.le_refl _))
    have FBv530 := Lib.hid (FBv529.out.keep hb (Nat.le_refl _))
    have FBv630 := Lib.hid (FBv629.out.keep hb (Nat.le_refl _))
    have FBu630 := Lib.hid (FBu629.out.keep hb (Nat.le_refl _))
    have FT1030 := Lib.hid (FT1029.out.keep hb (Nat.le_refl _))
    have FC1030 := Lib.hid (FC1029.out.keep hb (Nat.le_refl _))
    have FK1030 := Lib.hid (FK1029.out.keep hb (Nat.le_refl _))
    clear HB29 FBu129 FBu229 FBu329 FBu429 FBu529 FBv129 FBv229 FBv329 FBv429 FBv529 FBv629 FBu629 FT1029 FC1029 FK1029  hb 
    clear FT1030
    clear FC1030
    clear FK1030
    go_wp2_with fail
    refine (tank_any _).mono ?_
    rintro e w31 ⟨b11, rfl, ha, hbx, hb⟩
    clear hbx
    have HB31 := Lib.hid (HB30.out.trans (hb.mono HB30.out.size))
    have FBu131 := Lib.hid (FBu130.out.keep hb (Nat.le_refl _))
    have FBu231 := Lib.hid (FBu230.out.keep hb (Nat.le_refl _))
    have FBu331 := Lib.hid (FBu330.out.keep hb (Nat.le_refl _))
    have FBu431 := Lib.hid (FBu430.out.keep hb (Nat.le_refl _))
    have FBu531 := Lib.hid (FBu530.out.keep hb (Nat.le_refl _))
    have FBv131 := Lib.hid (FBv130.out.keep hb (Nat.le_refl _))
    have FBv231 := Lib.hid (FBv230.out.keep hb (Nat.le_refl _))
    have FBv331 := Lib.hid (FBv330.out.keep hb (Nat.le_refl _))
    have FBv431 := Lib.hid (FBv430.out.keep hb (Nat.le_refl _))
    have FBv531 := Lib.hid (FBv530.out.keep hb (Nat.le_refl _))
    have FBv631 := Lib.hid (FBv630.out.keep hb (Nat.le_refl _))
    have FBu631 := Lib.hid (FBu630.out.keep hb (Nat.le_refl _))
    have FT1131 := Lib.hid ha
    clear HB30 FBu130 FBu230 FBu330 FBu430 FBu530 FBv130 FBv230 FBv330 FBv430 FBv530 FBv630 FBu630 ha hb 
    go_wp2_with fail
    refine (plan_any _ _ _ _ _).mono ?_
    rintro e w32 ⟨p11, q11, rfl, hc, hk, hb⟩
    have HB32 := Lib.hid (HB31.out.trans (hb.mono HB31.out.size))
    have FBu132 := Lib.hid (FBu131.out.keep hb (Nat.le_refl _))
    have FBu232 := Lib.hid (FBu231.out.keep hb (Nat.le_refl _))
    have FBu332 := Lib.hid (FBu331.out.keep hb (Nat.le_refl _))
    have FBu432 := Lib.hid (FBu431.out.keep hb (Nat.le_refl _))
    have FBu532 := Lib.hid (FBu531.out.keep hb (Nat.le_refl _))
    have FBv132 := Lib.hid (FBv131.out.keep hb (Nat.le_refl _))
    have FBv232 := Lib.hid (FBv231.out.keep hb (Nat.le_refl _))
    have FBv332 := Lib.hid (FBv331.out.keep hb (Nat.le_refl _))
    have FBv432 := Lib.hid (FBv431.out.keep hb (Nat.le_refl _))
    have FBv532 := Lib.hid (FBv531.out.keep hb (Nat.le_refl _))
    have FBv632 := Lib.hid (FBv631.out.keep hb (Nat.le_refl _))
    have FBu632 := Lib.hid (FBu631.out.keep hb (Nat.le_refl _))
    have FT1132 := Lib.hid (FT1131.out.keep hb (Nat.le_refl _))
    have FC1132 := Lib.hid hc
    have FK1132 := Lib.hid hk
    clear HB31 FBu131 FBu231 FBu331 FBu431 FBu531 FBv131 FBv231 FBv331 FBv431 FBv531 FBv631 FBu631 FT1131 hc hk hb 
    have hp := nm_play b11 p11 q11 w32.heap.size (w32.alloc (.cells #[.int .i64 3, .int .i64 2] 3)) (FT1132.out.keep ((Below.refl _ _).alloc (Nat.le_refl _) _) (Nat.le_refl _)) (FC1132.out.keep ((Below.refl _ _).alloc (Nat.le_refl _) _) (Nat.le_refl _)) (FK1132.out.keep ((Below.refl _ _).alloc (Nat.le_refl _) _) (Nat.le_refl _)) (ints_new w32 [3, 2])
    have HP := Lib.hid hp
    clear hp
    go_wp2_with fail
    refine HP.out.mono ?_
    clear HP
    rintro e w33 ⟨rfl, hb0⟩
    have hb : Below w32.heap.size w32 w33 := ((Below.refl _ _).alloc (Nat.le_refl _) (.cells #[.int .i64 3, .int .i64 2] 3)).trans (hb0.mono (by simp))
    clear hb0
    have HB33 := Lib.hid (HB32.out.trans (hb.mono HB32.out.size))
    have FBu133 := Lib.hid (FBu132.out.keep hb (Nat.le_refl _))
    have FBu233 := Lib.hid (FBu232.out.keep hb (Nat.le_refl _))
    have FBu333 := Lib.hid (FBu332.out.keep hb (Nat.le_refl _))
    have FBu433 := Lib.hid (FBu432.out.keep hb (Nat.le_refl _))
    have FBu533 := Lib.hid (FBu532.out.keep hb (Nat.le_refl _))
    have FBv133 := Lib.hid (FBv132.out.keep hb (Nat.le_refl _))
    have FBv233 := Lib.hid (FBv232.out.keep hb (Nat.le_refl _))
    have FBv333 := Lib.hid (FBv332.out.keep hb (Nat.le_refl _))
    have FBv433 := Lib.hid (FBv432.out.keep hb (Nat.le_refl _))
    have FBv533 := Lib.hid (FBv532.out.keep hb (Nat.le_refl _))
    have FBv633 := Lib.hid (FBv632.out.keep hb (Nat.le_refl _))
    have FBu633 := Lib.hid (FBu632.out.keep hb (Nat.le_refl _))
    have FT1133 := Lib.hid (FT1132.out.keep hb (Nat.le_refl _))
    have FC1133 := Lib.hid (FC1132.out.keep hb (Nat.le_refl _))
    have FK1133 := Lib.hid (FK1132.out.keep hb (Nat.le_refl _))
    clear HB32 FBu132 FBu232 FBu332 FBu432 FBu532 FBv132 FBv232 FBv332 FBv432 FBv532 FBv632 FBu632 FT1132 FC1132 FK1132  hb 
    clear FT1133
    clear FC1133
    clear FK1133
    go_wp2_with fail
    refine (tank_any _).mono ?_
    rintro e w34 ⟨b12, rfl, ha, hbx, hb⟩
    clear hbx
    have HB34 := Lib.hid (HB33.out.trans (hb.mono HB33.out.size))
    have FBu134 := Lib.hid (FBu133.out.keep hb (Nat.le_refl _))
    have FBu234 := Lib.hid (FBu233.out.keep hb (Nat.le_refl _))
    have FBu334 := Lib.hid (FBu333.out.keep hb (Nat.le_refl _))
    have FBu434 := Lib.hid (FBu433.out.keep hb (Nat.le_refl _))
    have FBu534 := Lib.hid (FBu533.out.keep hb (Nat.le_refl _))
    have FBv134 := Lib.hid (FBv133.out.keep hb (Nat.le_refl _))
    have FBv234 := Lib.hid (FBv233.out.keep hb (Nat.le_refl _))
    have FBv334 := Lib.hid (FBv333.out.keep hb (Nat.le_refl _))
    have FBv434 := Lib.hid (FBv433.out.keep hb (Nat.le_refl _))
    have FBv534 := Lib.hid (FBv533.out.keep hb (Nat.le_refl _))
    have FBv634 := Lib.hid (FBv633.out.keep hb (Nat.le_refl _))
    have FBu634 := Lib.hid (FBu633.out.keep hb (Nat.le_refl _))
    have FT1234 := Lib.hid ha
    clear HB33 FBu133 FBu233 FBu333 FBu433 FBu533 FBv133 FBv233 FBv333 FBv433 FBv533 FBv633 FBu633 ha hb 
    go_wp2_with fail
    refine (plan_any _ _ _ _ _).mono ?_
    rintro e w35 ⟨p12, q12, rfl, hc, hk, hb⟩
    have HB35 := Lib.hid (HB34.out.trans (hb.mono HB34.out.size))
    have FBu135 := Lib.hid (FBu134.out.keep hb (Nat.le_refl _))
    have FBu235 := Lib.hid (FBu234.out.keep hb (Nat.le_refl _))
    have FBu335 := Lib.hid (FBu334.out.keep hb (Nat.le_refl _))
    have FBu435 := Lib.hid (FBu434.out.keep hb (Nat.le_refl _))
    have FBu535 := Lib.hid (FBu534.out.keep hb (Nat.le_refl _))
    have FBv135 := Lib.hid (FBv134.out.keep hb (Nat.le_refl _))
    have FBv235 := Lib.hid (FBv234.out.keep hb (Nat.le_refl _))
    have FBv335 := Lib.hid (FBv334.out.keep hb (Nat.le_refl _))
    have FBv435 := Lib.hid (FBv434.out.keep hb (Nat.le_refl _))
    have FBv535 := Lib.hid (FBv534.out.keep hb (Nat.le_refl _))
    have FBv635 := Lib.hid (FBv634.out.keep hb (Nat.le_refl _))
    have FBu635 := Lib.hid (FBu634.out.keep hb (Nat.le_refl _))
    have FT1235 := Lib.hid (FT1234.out.keep hb (Nat.le_refl _))
    have FC1235 := Lib.hid hc
    have FK1235 := Lib.hid hk
    clear HB34 FBu134 FBu234 FBu334 FBu434 FBu534 FBv134 FBv234 FBv334 FBv434 FBv534 FBv634 FBu634 FT1234 hc hk hb 
    have hp := nm_dark b12 p12 q12 w35 FT1235.out FC1235.out FK1235.out
    have HP := Lib.hid hp
    clear hp
    go_wp2_with fail
    refine HP.out.mono ?_
    clear HP
    rintro e w36 ⟨rfl, hb⟩
    have HB36 := Lib.hid (HB35.out.trans (hb.mono HB35.out.size))
    have FBu136 := Lib.hid (FBu135.out.keep hb (Nat.le_refl _))
    have FBu236 := Lib.hid (FBu235.out.keep hb (Nat.le_refl _))
    have FBu336 := Lib.hid (FBu335.out.keep hb (Nat.le_refl _))
    have FBu436 := Lib.hid (FBu435.out.keep hb (Nat.le_refl _))
    have FBu536 := Lib.hid (FBu535.out.keep hb (Nat.le_refl _))
    have FBv136 := Lib.hid (FBv135.out.keep hb (Nat.le_refl _))
    have FBv236 := Lib.hid (FBv235.out.keep hb (Nat.le_refl _))
    have FBv336 := Lib.hid (FBv335.out.keep hb (Nat.le_refl _))
    have FBv436 := Lib.hid (FBv435.out.keep hb (Nat.le_refl _))
    have FBv536 := Lib.hid (FBv535.out.keep hb (Nat.le_refl _))
    have FBv636 := Lib.hid (FBv635.out.keep hb (Nat.le_refl _))
    have FBu636 := Lib.hid (FBu635.out.keep hb (Nat.le_refl _))
    have FT1236 := Lib.hid (FT1235.out.keep hb (Nat.le_refl _))
    have FC1236 := Lib.hid (FC1235.out.keep hb (Nat.le_refl _))
    have FK1236 := Lib.hid (FK1235.out.keep hb (Nat.le_refl _))
    clear HB35 FBu135 FBu235 FBu335 FBu435 FBu535 FBv135 FBv235 FBv335 FBv435 FBv535 FBv635 FBu635 FT1235 FC1235 FK1235  hb 
    clear FT1236
    clear FC1236
    clear FK1236
    have hmk21 : ∀ W : World, (Instr.makeSlice 60 (.int .i64 7) (.int .i64 7)).run Try.prog W = .ok (.slice (some ⟨W.heap.size, 0, none⟩) 7 7) (W.alloc (.cells #[.int .i64 0, .int .i64 0, .int .i64 0, .int .i64 0, .int .i64 0, .int .i64 0, .int .i64 0, .int .i64 0, .int .i64 0, .int .i64 0, .int .i64 0, .int .i64 0, .int .i64 0, .int .i64 0, .int .i64 0, .int .i64 0, .int .i64 0, .int .i64 0, .int .i64 0, .int .i64 0, .int .i64 0] 103)) := fun _ => by kernel_rfl
    go_upto_region 19 with fail
    go_cut [17, 18] from 179 to 185 (NmSeven w36)
    case first =>
      obtain ⟨y0, hy0⟩ : ∃ v, w36.drew = v := ⟨_, rfl⟩
      have HX_y0 := Lib.hid (show Below w36.heap.size w36 y0 from hy0 ▸ (Below.refl _ w36).drew)
      clear FBu136 FBu236 FBu336 FBu436 FBu536 FBv136 FBv236 FBv336 FBv436 FBv536 FBv636 FBu636
      refine wp_region_held_drew (S := fun X => True) (by kernel_rfl) (trivial) (fun hS0 => ?_)
      rw [hy0]
      clear hy0
      refine wpAnyH_ready (rs := [0, 2]) (by kernel_rfl) (by simp) (AllReadyH.cons (o := ⟨some 180, .call ⟨.value (.func 55), #[], #[]⟩, 39, "outright.go:55", #[], none⟩) rfl (fun K hK => ?_) (AllReadyH.cons (o := ⟨some 182, .makeSlice 60 (.const (.int .i64 7)) (.const (.int .i64 7)), 60, "outright.go:55", #[], none⟩) rfl (fun K hK => ?_) AllReadyH.nil))
      · skip
        go_simp
        refine (tank_any _).mono ?_
        rintro e y1 ⟨b9, rfl, hT, hbx, hb⟩
        go_wp2_with fail
        clear hbx
        have FT_y1 := Lib.hid hT
        have HX_y1 := Lib.hid (HX_y0.out.trans (hb.mono HX_y0.out.size))
        clear hb hT
        refine hK.out _ _ (trivial) (fun hS1 => ?_)
        clear hS0 hK K
        refine wpAnyH_ready (rs := [1, 2]) (by kernel_rfl) (by simp) (AllReadyH.cons (o := ⟨some 181, .call ⟨.value (.func 56), #[.const (.int .i64 0), .const (.int .i64 1), .const (.int .i64 1), .const (.int .i64 2)], #[3, 3, 3, 3]⟩, 44, "outright.go:55", #[⟨0, .chain⟩], none⟩) rfl (fun K hK => ?_) (AllReadyH.cons (o := ⟨some 182, .makeSlice 60 (.const (.int .i64 7)) (.const (.int .i64 7)), 60, "outright.go:55", #[], none⟩) rfl (fun K hK => ?_) AllReadyH.nil))
        · skip
          go_simp
          refine (plan_any _ _ _ _ _).mono ?_
          rintro e y2 ⟨p9, q9, rfl, hC, hK, hb⟩
          go_wp2_with fail
          have FT_y2 := Lib.hid (FT_y1.out.keep hb (Nat.le_refl _))
          have FC_y2 := Lib.hid hC
          have FK_y2 := Lib.hid hK
          have HX_y2 := Lib.hid (HX_y1.out.trans (hb.mono HX_y1.out.size))
          clear hb hC hK
          refine hK.out _ _ (trivial) (fun hS2 => ?_)
          clear hS1 hK K
          refine wpAnyH_ready (rs := [2]) (by kernel_rfl) (by simp) (AllReadyH.cons (o := ⟨some 182, .makeSlice 60 (.const (.int .i64 7)) (.const (.int .i64 7)), 60, "outright.go:55", #[], none⟩) rfl (fun K hK => ?_) AllReadyH.nil)
          go_simp
          have hb : Below y2.heap.size y2 (y2.alloc (.cells #[.int .i64 0, .int .i64 0, .int .i64 0, .int .i64 0, .int .i64 0, .int .i64 0, .int .i64 0, .int .i64 0, .int .i64 0, .int .i64 0, .int .i64 0, .int .i64 0, .int .i64 0, .int .i64 0, .int .i64 0, .int .i64 0, .int .i64 0, .int .i64 0, .int .i64 0, .int .i64 0, .int .i64 0] 103)) := (Below.refl _ _).alloc (Nat.le_refl _) _
          have hD := dips7 y2
          obtain ⟨x9, hx9⟩ : ∃ x, y2.heap.size = x := ⟨_, rfl⟩
          rw [hx9] at hD ⊢
          clear hx9
          generalize (y2.alloc (.cells #[.int .i64 0, .int .i64 0, .int .i64 0, .int .i64 0, .int .i64 0, .int .i64 0, .int .i64 0, .int .i64 0, .int .i64 0, .int .i64 0, .int .i64 0, .int .i64 0, .int .i64 0, .int .i64 0, .int .i64 0, .int .i64 0, .int .i64 0, .int .i64 0, .int .i64 0, .int .i64 0, .int .i64 0] 103)) = y3 at hb hD ⊢
          have FT_y3 := Lib.hid (FT_y2.out.keep hb (Nat.le_refl _))
          have FC_y3 := Lib.hid (FC_y2.out.keep hb (Nat.le_refl _))
          have FK_y3 := Lib.hid (FK_y2.out.keep hb (Nat.le_refl _))
          have FD_y3 := Lib.hid hD
          have HX_y3 := Lib.hid (HX_y2.out.trans (hb.mono HX_y2.out.size))
          clear hb hD
          refine hK.out _ _ (trivial) (fun hS3 => ?_)
          clear hS2 hK K
          refine wpAnyH_ready (rs := [3]) (by kernel_rfl) (by simp) (AllReadyH.cons (o := ⟨some 183, .call ⟨.value (.func 30), #[.tmp 180, .tmp 181, .tmp 182], #[39, 44, 60]⟩, 58, "outright.go:55", #[⟨0, .data⟩, ⟨1, .data⟩, ⟨2, .data⟩, ⟨1, .chain⟩], none⟩) rfl (fun K hK => ?_) AllReadyH.nil)
          go_simp
          refine (nm_leave7 b9 p9 q9 x9 y3 FT_y3.out FC_y3.out FK_y3.out FD_y3.out).mono ?_
          rintro e y9 ⟨rfl, hb⟩
          go_wp2_with fail
          refine hK.out _ _ (trivial) (fun hS4 => ?_)
          clear hS3 hK K
          refine tkH 4 ⟨some 179, .move (.tmp 183), 58, "outright.go:55", #[⟨3, .data⟩], none⟩ (v := ?_) hS4 ?_ ?_
          rotate_left
          · intro X x0; go_simp; try with_reducible rfl
          simp only [Act.put, List.setIfInBounds_toArray, List.set_cons_zero, List.set_cons_succ, Array.toArray_toList]
          refine tkH 5 ⟨some 184, .extract (.tmp 179) 0, 27, "outright.go:55", #[⟨4, .data⟩], none⟩ (v := ?_) hS4 ?_ ?_
          rotate_left
          · intro X x0; go_simp; try with_reducible rfl
          simp only [Act.put, List.setIfInBounds_toArray, List.set_cons_zero, List.set_cons_succ, Array.toArray_toList]
          refine tkH 6 ⟨some 185, .extract (.tmp 179) 1, 34, "outright.go:55", #[⟨4, .data⟩, { on := 7, ground := Ground.gcOnly Departure.lateStores }], none⟩ (v := ?_) hS4 ?_ ?_
          rotate_left
          · intro X x0; go_simp; try with_reducible rfl
          simp only [Act.put, List.setIfInBounds_toArray, List.set_cons_zero, List.set_cons_succ, Array.toArray_toList]
          refine tkH 7 ⟨some 17, .assign (.tmp 184), 27, "outright.go:55", #[⟨5, .data⟩, ⟨3, .chain⟩, ⟨0, .phase⟩, ⟨1, .phase⟩, ⟨2, .phase⟩, ⟨3, .phase⟩, ⟨4, .phase⟩, ⟨5, .phase⟩, ⟨6, .textOnly .lateStores⟩], none⟩ (v := ?_) hS4 ?_ ?_
          rotate_left
          · intro X x0; go_simp; try with_reducible rfl
          simp only [Act.put, List.setIfInBounds_toArray, List.set_cons_zero, List.set_cons_succ, Array.toArray_toList]
          refine tkH 8 ⟨some 18, .assign (.tmp 185), 34, "outright.go:55", #[⟨6, .data⟩, ⟨7, .chain⟩, ⟨0, .phase⟩, ⟨1, .phase⟩, ⟨2, .phase⟩, ⟨3, .phase⟩, ⟨4, .phase⟩, ⟨5, .phase⟩, ⟨6, .phase⟩, ⟨7, .phase⟩], none⟩ (v := ?_) hS4 ?_ ?_
          rotate_left
          · intro X x0; go_simp; try with_reducible rfl
          simp only [Act.put, List.setIfInBounds_toArray, List.set_cons_zero, List.set_cons_succ, Array.toArray_toList]
          refine wpAnyH_done (by kernel_rfl) ?_ _
          clear hS4
          go_wp2_with fail
          go_meet
          case rel => exact ⟨rfl, HX_y3.out.trans (hb.mono HX_y3.out.size)⟩
        · skip
          go_simp
          have hb : Below y1.heap.size y1 (y1.alloc (.cells #[.int .i64 0, .int .i64 0, .int .i64 0, .int .i64 0, .int .i64 0, .int .i64 0, .int .i64 0, .int .i64 0, .int .i64 0, .int .i64 0, .int .i64 0, .int .i64 0, .int .i64 0, .int .i64 0, .int .i64 0, .int .i64 0, .int .i64 0, .int .i64 0, .int .i64 0, .int .i64 0, .int .i64 0] 103)) := (Below.refl _ _).alloc (Nat.le_refl _) _
          have hD := dips7 y1
          obtain ⟨x9, hx9⟩ : ∃ x, y1.heap.size = x := ⟨_, rfl⟩
          rw [hx9] at hD ⊢
          clear hx9
          generalize (y1.alloc (.cells #[.int .i64 0, .int .i64 0, .int .i64 0, .int .i64 0, .int .i64 0, .int .i64 0, .int .i64 0, .int .i64 0, .int .i64 0, .int .i64 0, .int .i64 0, .int .i64 0, .int .i64 0, .int .i64 0, .int .i64 0, .int .i64 0, .int .i64 0, .int .i64 0, .int .i64 0, .int .i64 0, .int .i64 0] 103)) = y4 at hb hD ⊢
          have FT_y4 := Lib.hid (FT_y1.out.keep hb (Nat.le_refl _))
          have FD_y4 := Lib.hid hD
          have HX_y4 := Lib.hid (HX_y1.out.trans (hb.mono HX_y1.out.size))
          clear hb hD
          refine hK.out _ _ (trivial) (fun hS2 => ?_)
          clear hS1 hK K
          refine wpAnyH_ready (rs := [1]) (by kernel_rfl) (by simp) (AllReadyH.cons (o := ⟨some 181, .call ⟨.value (.func 56), #[.const (.int .i64 0), .const (.int .i64 1), .const (.int .i64 1), .const (.int .i64 2)], #[3, 3, 3, 3]⟩, 44, "outright.go:55", #[⟨0, .chain⟩], none⟩) rfl (fun K hK => ?_) AllReadyH.nil)
          go_simp
          refine (plan_any _ _ _ _ _).mono ?_
          rintro e y5 ⟨p9, q9, rfl, hC, hK, hb⟩
          go_wp2_with fail
          have FT_y5 := Lib.hid (FT_y4.out.keep hb (Nat.le_refl _))
          have FD_y5 := Lib.hid (FD_y4.out.keep hb (Nat.le_refl _))
          have FC_y5 := Lib.hid hC
          have FK_y5 := Lib.hid hK
          have HX_y5 := Lib.hid (HX_y4.out.trans (hb.mono HX_y4.out.size))
          clear hb hC hK
          refine hK.out _ _ (trivial) (fun hS3 => ?_)
          clear hS2 hK K
          refine wpAnyH_ready (rs := [3]) (by kernel_rfl) (by simp) (AllReadyH.cons (o := ⟨some 183, .call ⟨.value (.func 30), #[.tmp 180, .tmp 181, .tmp 182], #[39, 44, 60]⟩, 58, "outright.go:55", #[⟨0, .data⟩, ⟨1, .data⟩, ⟨2, .data⟩, ⟨1, .chain⟩], none⟩) rfl (fun K hK => ?_) AllReadyH.nil)
          go_simp
          refine (nm_leave7 b9 p9 q9 x9 y5 FT_y5.out FC_y5.out FK_y5.out FD_y5.out).mono ?_
          rintro e y9 ⟨rfl, hb⟩
          go_wp2_with fail
          refine hK.out _ _ (trivial) (fun hS4 => ?_)
          clear hS3 hK K
          refine tkH 4 ⟨some 179, .move (.tmp 183), 58, "outright.go:55", #[⟨3, .data⟩], none⟩ (v := ?_) hS4 ?_ ?_
          rotate_left
          · intro X x0; go_simp; try with_reducible rfl
          simp only [Act.put, List.setIfInBounds_toArray, List.set_cons_zero, List.set_cons_succ, Array.toArray_toList]
          refine tkH 5 ⟨some 184, .extract (.tmp 179) 0, 27, "outright.go:55", #[⟨4, .data⟩], none⟩ (v := ?_) hS4 ?_ ?_
          rotate_left
          · intro X x0; go_simp; try with_reducible rfl
          simp only [Act.put, List.setIfInBounds_toArray, List.set_cons_zero, List.set_cons_succ, Array.toArray_toList]
          refine tkH 6 ⟨some 185, .extract (.tmp 179) 1, 34, "outright.go:55", #[⟨4, .data⟩, { on := 7, ground := Ground.gcOnly Departure.lateStores }], none⟩ (v := ?_) hS4 ?_ ?_
          rotate_left
          · intro X x0; go_simp; try with_reducible rfl
          simp only [Act.put, List.setIfInBounds_toArray, List.set_cons_zero, List.set_cons_succ, Array.toArray_toList]
          refine tkH 7 ⟨some 17, .assign (.tmp 184), 27, "outright.go:55", #[⟨5, .data⟩, ⟨3, .chain⟩, ⟨0, .phase⟩, ⟨1, .phase⟩, ⟨2, .phase⟩, ⟨3, .phase⟩, ⟨4, .phase⟩, ⟨5, .phase⟩, ⟨6, .textOnly .lateStores⟩], none⟩ (v := ?_) hS4 ?_ ?_
          rotate_left
          · intro X x0; go_simp; try with_reducible rfl
          simp only [Act.put, List.setIfInBounds_toArray, List.set_cons_zero, List.set_cons_succ, Array.toArray_toList]
          refine tkH 8 ⟨some 18, .assign (.tmp 185), 34, "outright.go:55", #[⟨6, .data⟩, ⟨7, .chain⟩, ⟨0, .phase⟩, ⟨1, .phase⟩, ⟨2, .phase⟩, ⟨3, .phase⟩, ⟨4, .phase⟩, ⟨5, .phase⟩, ⟨6, .phase⟩, ⟨7, .phase⟩], none⟩ (v := ?_) hS4 ?_ ?_
          rotate_left
          · intro X x0; go_simp; try with_reducible rfl
          simp only [Act.put, List.setIfInBounds_toArray, List.set_cons_zero, List.set_cons_succ, Array.toArray_toList]
          refine wpAnyH_done (by kernel_rfl) ?_ _
          clear hS4
          go_wp2_with fail
          go_meet
          case rel => exact ⟨rfl, HX_y5.out.trans (hb.mono HX_y5.out.size)⟩
      · skip
        go_simp
        have hb : Below y0.heap.size y0 (y0.alloc (.cells #[.int .i64 0, .int .i64 0, .int .i64 0, .int .i64 0, .int .i64 0, .int .i64 0, .int .i64 0, .int .i64 0, .int .i64 0, .int .i64 0, .int .i64 0, .int .i64 0, .int .i64 0, .int .i64 0, .int .i64 0, .int .i64 0, .int .i64 0, .int .i64 0, .int .i64 0, .int .i64 0, .int .i64 0] 103)) := (Below.refl _ _).alloc (Nat.le_refl _) _
        have hD := dips7 y0
        obtain ⟨x9, hx9⟩ : ∃ x, y0.heap.size = x := ⟨_, rfl⟩
        rw [hx9] at hD ⊢
        clear hx9
        generalize (y0.alloc (.cells #[.int .i64 0, .int .i64 0, .int .i64 0, .int .i64 0, .int .i64 0, .int .i64 0, .int .i64 0, .int .i64 0, .int .i64 0, .int .i64 0, .int .i64 0, .int .i64 0, .int .i64 0, .int .i64 0, .int .i64 0, .int .i64 0, .int .i64 0, .int .i64 0, .int .i64 0, .int .i64 0, .int .i64 0] 103)) = y6 at hb hD ⊢
        have FD_y6 := Lib.hid hD
        have HX_y6 := Lib.hid (HX_y0.out.trans (hb.mono HX_y0.out.size))
        clear hb hD
        refine hK.out _ _ (trivial) (fun hS1 => ?_)
        clear hS0 hK K
        refine wpAnyH_ready (rs := [0]) (by kernel_rfl) (by simp) (AllReadyH.cons (o := ⟨some 180, .call ⟨.value (.func 55), #[], #[]⟩, 39, "outright.go:55", #[], none⟩) rfl (fun K hK => ?_) AllReadyH.nil)
        go_simp
        refine (tank_any _).mono ?_
        rintro e y7 ⟨b9, rfl, hT, hbx, hb⟩
        go_wp2_with fail
        clear hbx
        have FD_y7 := Lib.hid (FD_y6.out.keep hb (Nat.le_refl _))
        have FT_y7 := Lib.hid hT
        have HX_y7 := Lib.hid (HX_y6.out.trans (hb.mono HX_y6.out.size))
        clear hb hT
        refine hK.out _ _ (trivial) (fun hS2 => ?_)
        clear hS1 hK K
        refine wpAnyH_ready (rs := [1]) (by kernel_rfl) (by simp) (AllReadyH.cons (o := ⟨some 181, .call ⟨.value (.func 56), #[.const (.int .i64 0), .const (.int .i64 1), .const (.int .i64 1), .const (.int .i64 2)], #[3, 3, 3, 3]⟩, 44, "outright.go:55", #[⟨0, .chain⟩], none⟩) rfl (fun K hK => ?_) AllReadyH.nil)
        go_simp
        refine (plan_any _ _ _ _ _).mono ?_
        rintro e y8 ⟨p9, q9, rfl, hC, hK, hb⟩
        go_wp2_with fail
        have FD_y8 := Lib.hid (FD_y7.out.keep hb (Nat.le_refl _))
        have FT_y8 := Lib.hid (FT_y7.out.keep hb (Nat.le_refl _))
        have FC_y8 := Lib.hid hC
        have FK_y8 := Lib.hid hK
        have HX_y8 := Lib.hid (HX_y7.out.trans (hb.mono HX_y7.out.size))
        clear hb hC hK
        refine hK.out _ _ (trivial) (fun hS3 => ?_)
        clear hS2 hK K
        refine wpAnyH_ready (rs := [3]) (by kernel_rfl) (by simp) (AllReadyH.cons (o := ⟨some 183, .call ⟨.value (.func 30), #[.tmp 180, .tmp 181, .tmp 182], #[39, 44, 60]⟩, 58, "outright.go:55", #[⟨0, .data⟩, ⟨1, .data⟩, ⟨2, .data⟩, ⟨1, .chain⟩], none⟩) rfl (fun K hK => ?_) AllReadyH.nil)
        go_simp
        refine (nm_leave7 b9 p9 q9 x9 y8 FT_y8.out FC_y8.out FK_y8.out FD_y8.out).mono ?_
        rintro e y9 ⟨rfl, hb⟩
        go_wp2_with fail
        refine hK.out _ _ (trivial) (fun hS4 => ?_)
        clear hS3 hK K
        refine tkH 4 ⟨some 179, .move (.tmp 183), 58, "outright.go:55", #[⟨3, .data⟩], none⟩ (v := ?_) hS4 ?_ ?_
        rotate_left
        · intro X x0; go_simp; try with_reducible rfl
        simp only [Act.put, List.setIfInBounds_toArray, List.set_cons_zero, List.set_cons_succ, Array.toArray_toList]
        refine tkH 5 ⟨some 184, .extract (.tmp 179) 0, 27, "outright.go:55", #[⟨4, .data⟩], none⟩ (v := ?_) hS4 ?_ ?_
        rotate_left
        · intro X x0; go_simp; try with_reducible rfl
        simp only [Act.put, List.setIfInBounds_toArray, List.set_cons_zero, List.set_cons_succ, Array.toArray_toList]
        refine tkH 6 ⟨some 185, .extract (.tmp 179) 1, 34, "outright.go:55", #[⟨4, .data⟩, { on := 7, ground := Ground.gcOnly Departure.lateStores }], none⟩ (v := ?_) hS4 ?_ ?_
        rotate_left
        · intro X x0; go_simp; try with_reducible rfl
        simp only [Act.put, List.setIfInBounds_toArray, List.set_cons_zero, List.set_cons_succ, Array.toArray_toList]
        refine tkH 7 ⟨some 17, .assign (.tmp 184), 27, "outright.go:55", #[⟨5, .data⟩, ⟨3, .chain⟩, ⟨0, .phase⟩, ⟨1, .phase⟩, ⟨2, .phase⟩, ⟨3, .phase⟩, ⟨4, .phase⟩, ⟨5, .phase⟩, ⟨6, .textOnly .lateStores⟩], none⟩ (v := ?_) hS4 ?_ ?_
        rotate_left
        · intro X x0; go_simp; try with_reducible rfl
        simp only [Act.put, List.setIfInBounds_toArray, List.set_cons_zero, List.set_cons_succ, Array.toArray_toList]
        refine tkH 8 ⟨some 18, .assign (.tmp 185), 34, "outright.go:55", #[⟨6, .data⟩, ⟨7, .chain⟩, ⟨0, .phase⟩, ⟨1, .phase⟩, ⟨2, .phase⟩, ⟨3, .phase⟩, ⟨4, .phase⟩, ⟨5, .phase⟩, ⟨6, .phase⟩, ⟨7, .phase⟩], none⟩ (v := ?_) hS4 ?_ ?_
        rotate_left
        · intro X x0; go_simp; try with_reducible rfl
        simp only [Act.put, List.setIfInBounds_toArray, List.set_cons_zero, List.set_cons_succ, Array.toArray_toList]
        refine wpAnyH_done (by kernel_rfl) ?_ _
        clear hS4
        go_wp2_with fail
        go_meet
        case rel => exact ⟨rfl, HX_y8.out.trans (hb.mono HX_y8.out.size)⟩
    case rest =>
      generalize wc = w37 at hcut ⊢
      obtain ⟨rfl, hb⟩ := hcut
      clear hmk21
      have HB37 := Lib.hid (HB36.out.trans (hb.mono HB36.out.size))
      have FBu137 := Lib.hid (FBu136.out.keep hb (Nat.le_refl _))
      have FBu237 := Lib.hid (FBu236.out.keep hb (Nat.le_refl _))
      have FBu337 := Lib.hid (FBu336.out.keep hb (Nat.le_refl _))
      have FBu437 := Lib.hid (FBu436.out.keep hb (Nat.le_refl _))
      have FBu537 := Lib.hid (FBu536.out.keep hb (Nat.le_refl _))
      have FBv137 := Lib.hid (FBv136.out.keep hb (Nat.le_refl _))
      have FBv237 := Lib.hid (FBv236.out.keep hb (Nat.le_refl _))
      have FBv337 := Lib.hid (FBv336.out.keep hb (Nat.le_refl _))
      have FBv437 := Lib.hid (FBv436.out.keep hb (Nat.le_refl _))
      have FBv537 := Lib.hid (FBv536.out.keep hb (Nat.le_refl _))
      have FBv637 := Lib.hid (FBv636.out.keep hb (Nat.le_refl _))
      have FBu637 := Lib.hid (FBu636.out.keep hb (Nat.le_refl _))
      clear HB36 FBu136 FBu236 FBu336 FBu436 FBu536 FBv136 FBv236 FBv336 FBv436 FBv536 FBv636 FBu636  hb 
      go_wp2_with fail
      refine (tank_any _).mono ?_
      rintro e w38 ⟨b13, rfl, ha, hbx, hb⟩
      clear hbx
      have HB38 := Lib.hid (HB37.out.trans (hb.mono HB37.out.size))
      have FBu138 := Lib.hid (FBu137.out.keep hb (Nat.le_refl _))
      have FBu238 := Lib.hid (FBu237.out.keep hb (Nat.le_refl _))
      have FBu338 := Lib.hid (FBu337.out.keep hb (Nat.le_refl _))
      have FBu438 := Lib.hid (FBu437.out.keep hb (Nat.le_refl _))
      have FBu538 := Lib.hid (FBu537.out.keep hb (Nat.le_refl _))
      have FBv138 := Lib.hid (FBv137.out.keep hb (Nat.le_refl _))
      have FBv238 := Lib.hid (FBv237.out.keep hb (Nat.le_refl _))
      have FBv338 := Lib.hid (FBv337.out.keep hb (Nat.le_refl _))
      have FBv438 := Lib.hid (FBv437.out.keep hb (Nat.le_refl _))
      have FBv538 := Lib.hid (FBv537.out.keep hb (Nat.le_refl _))
      have FBv638 := Lib.hid (FBv637.out.keep hb (Nat.le_refl _))
      have FBu638 := Lib.hid (FBu637.out.keep hb (Nat.le_refl _))
      have FT1338 := Lib.hid ha
      clear HB37 FBu137 FBu237 FBu337 FBu437 FBu537 FBv137 FBv237 FBv337 FBv437 FBv537 FBv637 FBu637 ha hb 
      go_wp2_with fail
      refine (plan_any _ _ _ _ _).mono ?_
      rintro e w39 ⟨p13, q13, rfl, hc, hk, hb⟩
      have HB39 := Lib.hid (HB38.out.trans (hb.mono HB38.out.size))
      have FBu139 := Lib.hid (FBu138.out.keep hb (Nat.le_refl _))
      have FBu239 := Lib.hid (FBu238.out.keep hb (Nat.le_refl _))
      have FBu339 := Lib.hid (FBu338.out.keep hb (Nat.le_refl _))
      have FBu439 := Lib.hid (FBu438.out.keep hb (Nat.le_refl _))
      have FBu539 := Lib.hid (FBu538.out.keep hb (Nat.le_refl _))
      have FBv139 := Lib.hid (FBv138.out.keep hb (Nat.le_refl _))
      have FBv239 := Lib.hid (FBv238.out.keep hb (Nat.le_refl _))
      have FBv339 := Lib.hid (FBv338.out.keep hb (Nat.le_refl _))
      have FBv439 := Lib.hid (FBv438.out.keep hb (Nat.le_refl _))
      have FBv539 := Lib.hid (FBv538.out.keep hb (Nat.le_refl _))
      have FBv639 := Lib.hid (FBv638.out.keep hb (Nat.le_refl _))
      have FBu639 := Lib.hid (FBu638.out.keep hb (Nat.le_refl _))
      have FT1339 := Lib.hid (FT1338.out.keep hb (Nat.le_refl _))
      have FC1339 := Lib.hid hc
      have FK1339 := Lib.hid hk
      clear HB38 FBu138 FBu238 FBu338 FBu438 FBu538 FBv138 FBv238 FBv338 FBv438 FBv538 FBv638 FBu638 FT1338 hc hk hb 
      have hp := nm_leave2 b13 p13 q13 w39.heap.size (w39.alloc (.cells #[.int .i64 2, .int .i64 0, .int .i64 0] 103)) (FT1339.out.keep ((Below.refl _ _).alloc (Nat.le_refl _) _) (Nat.le_refl _)) (FC1339.out.keep ((Below.refl _ _).alloc (Nat.le_refl _) _) (Nat.le_refl _)) (FK1339.out.keep ((Below.refl _ _).alloc (Nat.le_refl _) _) (Nat.le_refl _)) (dip_new w39 2 0 0)
      have HP := Lib.hid hp
      clear hp
      go_wp2_with fail
      refine HP.out.mono ?_
      clear HP
      rintro e w40 ⟨rfl, hb0⟩
      have hb : Below w39.heap.size w39 w40 := ((Below.refl _ _).alloc (Nat.le_refl _) (.cells #[.int .i64 2, .int .i64 0, .int .i64 0] 103)).trans (hb0.mono (by simp))
      clear hb0
      have HB40 := Lib.hid (HB39.out.trans (hb.mono HB39.out.size))
      have FBu140 := Lib.hid (FBu139.out.keep hb (Nat.le_refl _))
      have FBu240 := Lib.hid (FBu239.out.keep hb (Nat.le_refl _))
      have FBu340 := Lib.hid (FBu339.out.keep hb (Nat.le_refl _))
      have FBu440 := Lib.hid (FBu439.out.keep hb (Nat.le_refl _))
      have FBu540 := Lib.hid (FBu539.out.keep hb (Nat.le_refl _))
      have FBv140 := Lib.hid (FBv139.out.keep hb (Nat.le_refl _))
      have FBv240 := Lib.hid (FBv239.out.keep hb (Nat.le_refl _))
      have FBv340 := Lib.hid (FBv339.out.keep hb (Nat.le_refl _))
      have FBv440 := Lib.hid (FBv439.out.keep hb (Nat.le_refl _))
      have FBv540 := Lib.hid (FBv539.out.keep hb (Nat.le_refl _))
      have FBv640 := Lib.hid (FBv639.out.keep hb (Nat.le_refl _))
      have FBu640 := Lib.hid (FBu639.out.keep hb (Nat.le_refl _))
      have FT1340 := Lib.hid (FT1339.out.keep hb (Nat.le_refl _))
      have FC1340 := Lib.hid (FC1339.out.keep hb (Nat.le_refl _))
      have FK1340 := Lib.hid (FK1339.out.keep hb (Nat.le_refl _))
      clear HB39 FBu139 FBu239 FBu339 FBu439 FBu539 FBv139 FBv239 FBv339 FBv439 FBv539 FBv639 FBu639 FT1339 FC1339 FK1339  hb 
      clear FT1340
      clear FC1340
      clear FK1340
      go_wp2_with fail
      refine (tank_any _).mono ?_
      rintro e w41 ⟨b14, rfl, ha, hbx, hb⟩
      clear hbx
      have HB41 := Lib.hid (HB40.out.trans (hb.mono HB40.out.size))
      have FBu141 := Lib.hid (FBu140.out.keep hb (Nat.le_refl _))
      have FBu241 := Lib.hid (FBu240.out.keep hb (Nat.le_refl _))
      have FBu341 := Lib.hid (FBu340.out.keep hb (Nat.le_refl _))
      have FBu441 := Lib.hid (FBu440.out.keep hb (Nat.le_refl _))
      have FBu541 := Lib.hid (FBu540.out.keep hb (Nat.le_refl _))
      have FBv141 := Lib.hid (FBv140.out.keep hb (Nat.le_refl _))
      have FBv241 := Lib.hid (FBv240.out.keep hb (Nat.le_refl _))
      have FBv341 := Lib.hid (FBv340.out.keep hb (Nat.le_refl _))
      have FBv441 := Lib.hid (FBv440.out.keep hb (Nat.le_refl _))
      have FBv541 := Lib.hid (FBv540.out.keep hb (Nat.le_refl _))
      have FBv641 := Lib.hid (FBv640.out.keep hb (Nat.le_refl _))
      have FBu641 := Lib.hid (FBu640.out.keep hb (Nat.le_refl _))
      have FT1441 := Lib.hid ha
      clear HB40 FBu140 FBu240 FBu340 FBu440 FBu540 FBv140 FBv240 FBv340 FBv440 FBv540 FBv640 FBu640 ha hb 
      have hp := nm_del1 b14 w41.heap.size (w41.alloc (.cells #[.int .i64 1] 3)) (FT1441.out.keep ((Below.refl _ _).alloc (Nat.le_refl _) _) (Nat.le_refl _)) (ints_new w41 [1])
      have HP := Lib.hid hp
      clear hp
      go_wp2_with fail
      refine HP.out.mono ?_
      clear HP
      rintro e w42 ⟨rfl, hb0⟩
      have hb : Below w41.heap.size w41 w42 := ((Below.refl _ _).alloc (Nat.le_refl _) (.cells #[.int .i64 1] 3)).trans (hb0.mono (by simp))
      clear hb0
      have HB42 := Lib.hid (HB41.out.trans (hb.mono HB41.out.size))
      have FBu142 := Lib.hid (FBu141.out.keep hb (Nat.le_refl _))
      have FBu242 := Lib.hid (FBu241.out.keep hb (Nat.le_refl _))
      have FBu342 := Lib.hid (FBu341.out.keep hb (Nat.le_refl _))
      have FBu442 := Lib.hid (FBu441.out.keep hb (Nat.le_refl _))
      have FBu542 := Lib.hid (FBu541.out.keep hb (Nat.le_refl _))
      have FBv142 := Lib.hid (FBv141.out.keep hb (Nat.le_refl _))
      have FBv242 := Lib.hid (FBv241.out.keep hb (Nat.le_refl _))
      have FBv342 := Lib.hid (FBv341.out.keep hb (Nat.le_refl _))
      have FBv442 := Lib.hid (FBv441.out.keep hb (Nat.le_refl _))
      have FBv542 := Lib.hid (FBv541.out.keep hb (Nat.le_refl _))
      have FBv642 := Lib.hid (FBv641.out.keep hb (Nat.le_refl _))
      have FBu642 := Lib.hid (FBu641.out.keep hb (Nat.le_refl _))
      have FT1442 := Lib.hid (FT1441.out.keep hb (Nat.le_refl _))
      clear HB41 FBu141 FBu241 FBu341 FBu441 FBu541 FBv141 FBv241 FBv341 FBv441 FBv541 FBv641 FBu641 FT1441  hb 
      clear FT1442
      have ccv1_0 : w42.cell? ⟨v1, 0, none⟩ = some (.int .i64 401) := FBv142.out.cell 0 (by rfl)
      have ccv1_1 : w42.cell? ⟨v1, 1, none⟩ = some (.int .i64 50) := FBv142.out.cell 1 (by rfl)
      have ccv1_2 : w42.cell? ⟨v1, 2, none⟩ = some (.int .i64 20) := FBv142.out.cell 2 (by rfl)
      have ccv1_3 : w42.cell? ⟨v1, 3, none⟩ = some (.int .i64 30) := FBv142.out.cell 3 (by rfl)
      have ccv1_4 : w42.cell? ⟨v1, 4, none⟩ = some (.slice (some ⟨u1, 0, none⟩) 2 2) := FBv142.out.cell 4 (by rfl)
      go_wp2_with fail
      clear ccv1_0 ccv1_1 ccv1_2 ccv1_3 ccv1_4
      have hp := nm_chk ⟨401, 50, 20, 30, [⟨5, 1, 3, 2, 3⟩, ⟨4, 1, 2, 2, 2⟩]⟩ (some ⟨u1, 0, none⟩) 2 1 w42 nm_f1 (by decide) (tk2 FBu142.out)
      have HP := Lib.hid hp
      clear hp
      refine HP.out.mono ?_
      clear HP
      rintro e w43 ⟨rfl, hb⟩
      have HB43 := Lib.hid (HB42.out.trans (hb.mono HB42.out.size))
      have FBu143 := Lib.hid (FBu142.out.keep hb (Nat.le_refl _))
      have FBu243 := Lib.hid (FBu242.out.keep hb (Nat.le_refl _))
      have FBu343 := Lib.hid (FBu342.out.keep hb (Nat.le_refl _))
      have FBu443 := Lib.hid (FBu442.out.keep hb (Nat.le_refl _))
      have FBu543 := Lib.hid (FBu542.out.keep hb (Nat.le_refl _))
      have FBv143 := Lib.hid (FBv142.out.keep hb (Nat.le_refl _))
      have FBv243 := Lib.hid (FBv242.out.keep hb (Nat.le_refl _))
      have FBv343 := Lib.hid (FBv342.out.keep hb (Nat.le_refl _))
      have FBv443 := Lib.hid (FBv442.out.keep hb (Nat.le_refl _))
      have FBv543 := Lib.hid (FBv542.out.keep hb (Nat.le_refl _))
      have FBv643 := Lib.hid (FBv642.out.keep hb (Nat.le_refl _))
      have FBu643 := Lib.hid (FBu642.out.keep hb (Nat.le_refl _))
      clear HB42 FBu142 FBu242 FBu342 FBu442 FBu542 FBv142 FBv242 FBv342 FBv442 FBv542 FBv642 FBu642  hb 
      have ccv2_0 : w43.cell? ⟨v2, 0, none⟩ = some (.int .i64 100) := FBv243.out.cell 0 (by rfl)
      have ccv2_1 : w43.cell? ⟨v2, 1, none⟩ = some (.int .i64 0) := FBv243.out.cell 1 (by rfl)
      have ccv2_2 : w43.cell? ⟨v2, 2, none⟩ = some (.int .i64 20) := FBv243.out.cell 2 (by rfl)
      have ccv2_3 : w43.cell? ⟨v2, 3, none⟩ = some (.int .i64 30) := FBv243.out.cell 3 (by rfl)
      have ccv2_4 : w43.cell? ⟨v2, 4, none⟩ = some (.slice (some ⟨u2, 0, none⟩) 2 2) := FBv243.out.cell 4 (by rfl)
      go_wp2_with fail
      clear ccv2_0 ccv2_1 ccv2_2 ccv2_3 ccv2_4
      have hp := nm_chk ⟨100, 0, 20, 30, [⟨5, 1, 3, 2, 3⟩, ⟨4, 1, 2, 2, 2⟩]⟩ (some ⟨u2, 0, none⟩) 2 1 w43 nm_f2 (by decide) (tk2 FBu243.out)
      have HP := Lib.hid hp
      clear hp
      refine HP.out.mono ?_
      clear HP
      rintro e w44 ⟨rfl, hb⟩
      have HB44 := Lib.hid (HB43.out.trans (hb.mono HB43.out.size))
      have FBu144 := Lib.hid (FBu143.out.keep hb (Nat.le_refl _))
      have FBu244 := Lib.hid (FBu243.out.keep hb (Nat.le_refl _))
      have FBu344 := Lib.hid (FBu343.out.keep hb (Nat.le_refl _))
      have FBu444 := Lib.hid (FBu443.out.keep hb (Nat.le_refl _))
      have FBu544 := Lib.hid (FBu543.out.keep hb (Nat.le_refl _))
      have FBv144 := Lib.hid (FBv143.out.keep hb (Nat.le_refl _))
      have FBv244 := Lib.hid (FBv243.out.keep hb (Nat.le_refl _))
      have FBv344 := Lib.hid (FBv343.out.keep hb (Nat.le_refl _))
      have FBv444 := Lib.hid (FBv443.out.keep hb (Nat.le_refl _))
      have FBv544 := Lib.hid (FBv543.out.keep hb (Nat.le_refl _))
      have FBv644 := Lib.hid (FBv643.out.keep hb (Nat.le_refl _))
      have FBu644 := Lib.hid (FBu643.out.keep hb (Nat.le_refl _))
      clear HB43 FBu143 FBu243 FBu343 FBu443 FBu543 FBv143 FBv243 FBv343 FBv443 FBv543 FBv643 FBu643  hb 
      have ccv3_0 : w44.cell? ⟨v3, 0, none⟩ = some (.int .i64 100) := FBv344.out.cell 0 (by rfl)
      have ccv3_1 : w44.cell? ⟨v3, 1, none⟩ = some (.int .i64 50) := FBv344.out.cell 1 (by rfl)
      have ccv3_2 : w44.cell? ⟨v3, 2, none⟩ = some (.int .i64 20) := FBv344.out.cell 2 (by rfl)
      have ccv3_3 : w44.cell? ⟨v3, 3, none⟩ = some (.int .i64 101) := FBv344.out.cell 3 (by rfl)
      have ccv3_4 : w44.cell? ⟨v3, 4, none⟩ = some (.slice (some ⟨u3, 0, none⟩) 2 2) := FBv344.out.cell 4 (by rfl)
      go_wp2_with fail
      clear ccv3_0 ccv3_1 ccv3_2 ccv3_3 ccv3_4
      have hp := nm_chk ⟨100, 50, 20, 101, [⟨5, 1, 3, 2, 3⟩, ⟨4, 1, 2, 2, 2⟩]⟩ (some ⟨u3, 0, none⟩) 2 1 w44 nm_f3 (by decide) (tk2 FBu344.out)
      have HP := Lib.hid hp
      clear hp
      refine HP.out.mono ?_
      clear HP
      rintro e w45 ⟨rfl, hb⟩
      have HB45 := Lib.hid (HB44.out.trans (hb.mono HB44.out.size))
      have FBu145 := Lib.hid (FBu144.out.keep hb (Nat.le_refl _))
      have FBu245 := Lib.hid (FBu244.out.keep hb (Nat.le_refl _))
      have FBu345 := Lib.hid (FBu344.out.keep hb (Nat.le_refl _))
      have FBu445 := Lib.hid (FBu444.out.keep hb (Nat.le_refl _))
      have FBu545 := Lib.hid (FBu544.out.keep hb (Nat.le_refl _))
      have FBv145 := Lib.hid (FBv144.out.keep hb (Nat.le_refl _))
      have FBv245 := Lib.hid (FBv244.out.keep hb (Nat.le_refl _))
      have FBv345 := Lib.hid (FBv344.out.keep hb (Nat.le_refl _))
      have FBv445 := Lib.hid (FBv444.out.keep hb (Nat.le_refl _))
      have FBv545 := Lib.hid (FBv544.out.keep hb (Nat.le_refl _))
      have FBv645 := Lib.hid (FBv644.out.keep hb (Nat.le_refl _))
      have FBu645 := Lib.hid (FBu644.out.keep hb (Nat.le_refl _))
      clear HB44 FBu144 FBu244 FBu344 FBu444 FBu544 FBv144 FBv244 FBv344 FBv444 FBv544 FBv644 FBu644  hb 
      have ccv4_0 : w45.cell? ⟨v4, 0, none⟩ = some (.int .i64 100) := FBv445.out.cell 0 (by rfl)
      have ccv4_1 : w45.cell? ⟨v4, 1, none⟩ = some (.int .i64 50) := FBv445.out.cell 1 (by rfl)
      have ccv4_2 : w45.cell? ⟨v4, 2, none⟩ = some (.int .i64 20) := FBv445.out.cell 2 (by rfl)
      have ccv4_3 : w45.cell? ⟨v4, 3, none⟩ = some (.int .i64 30) := FBv445.out.cell 3 (by rfl)
      have ccv4_4 : w45.cell? ⟨v4, 4, none⟩ = some (.slice (some ⟨u4, 0, none⟩) 2 2) := FBv445.out.cell 4 (by rfl)
      go_wp2_with fail
      clear ccv4_0 ccv4_1 ccv4_2 ccv4_3 ccv4_4
      have hp := nm_chk ⟨100, 50, 20, 30, [⟨15, 1, 3, 2, 3⟩, ⟨4, 1, 2, 2, 2⟩]⟩ (some ⟨u4, 0, none⟩) 2 1 w45 nm_f4 (by decide) (tk2 FBu445.out)
      have HP := Lib.hid hp
      clear hp
      refine HP.out.mono ?_
      clear HP
      rintro e w46 ⟨rfl, hb⟩
      have HB46 := Lib.hid (HB45.out.trans (hb.mono HB45.out.size))
      have FBu146 := Lib.hid (FBu145.out.keep hb (Nat.le_refl _))
      have FBu246 := Lib.hid (FBu245.out.keep hb (Nat.le_refl _))
      have FBu346 := Lib.hid (FBu345.out.keep hb (Nat.le_refl _))
      have FBu446 := Lib.hid (FBu445.out.keep hb (Nat.le_refl _))
      have FBu546 := Lib.hid (FBu545.out.keep hb (Nat.le_refl _))
      have FBv146 := Lib.hid (FBv145.out.keep hb (Nat.le_refl _))
      have FBv246 := Lib.hid (FBv245.out.keep hb (Nat.le_refl _))
      have FBv346 := Lib.hid (FBv345.out.keep hb (Nat.le_refl _))
      have FBv446 := Lib.hid (FBv445.out.keep hb (Nat.le_refl _))
      have FBv546 := Lib.hid (FBv545.out.keep hb (Nat.le_refl _))
      have FBv646 := Lib.hid (FBv645.out.keep hb (Nat.le_refl _))
      have FBu646 := Lib.hid (FBu645.out.keep hb (Nat.le_refl _))
      clear HB45 FBu145 FBu245 FBu345 FBu445 FBu545 FBv145 FBv245 FBv345 FBv445 FBv545 FBv645 FBu645  hb 
      have ccv5_0 : w46.cell? ⟨v5, 0, none⟩ = some (.int .i64 100) := FBv546.out.cell 0 (by rfl)
      have ccv5_1 : w46.cell? ⟨v5, 1, none⟩ = some (.int .i64 50) := FBv546.out.cell 1 (by rfl)
      have ccv5_2 : w46.cell? ⟨v5, 2, none⟩ = some (.int .i64 20) := FBv546.out.cell 2 (by rfl)
      have ccv5_3 : w46.cell? ⟨v5, 3, none⟩ = some (.int .i64 30) := FBv546.out.cell 3 (by rfl)
      have ccv5_4 : w46.cell? ⟨v5, 4, none⟩ = some (.slice (some ⟨u5, 0, none⟩) 2 2) := FBv546.out.cell 4 (by rfl)
      go_wp2_with fail
      clear ccv5_0 ccv5_1 ccv5_2 ccv5_3 ccv5_4
      have hp := nm_chk ⟨100, 50, 20, 30, [⟨5, 4, 3, 2, 3⟩, ⟨4, 1, 2, 2, 2⟩]⟩ (some ⟨u5, 0, none⟩) 2 1 w46 nm_f5 (by decide) (tk2 FBu546.out)
      have HP := Lib.hid hp
      clear hp
      refine HP.out.mono ?_
      clear HP
      rintro e w47 ⟨rfl, hb⟩
      have HB47 := Lib.hid (HB46.out.trans (hb.mono HB46.out.size))
      have FBu147 := Lib.hid (FBu146.out.keep hb (Nat.le_refl _))
      have FBu247 := Lib.hid (FBu246.out.keep hb (Nat.le_refl _))
      have FBu347 := Lib.hid (FBu346.out.keep hb (Nat.le_refl _))
      have FBu447 := Lib.hid (FBu446.out.keep hb (Nat.le_refl _))
      have FBu547 := Lib.hid (FBu546.out.keep hb (Nat.le_refl _))
      have FBv147 := Lib.hid (FBv146.out.keep hb (Nat.le_refl _))
      have FBv247 := Lib.hid (FBv246.out.keep hb (Nat.le_refl _))
      have FBv347 := Lib.hid (FBv346.out.keep hb (Nat.le_refl _))
      have FBv447 := Lib.hid (FBv446.out.keep hb (Nat.le_refl _))
      have FBv547 := Lib.hid (FBv546.out.keep hb (Nat.le_refl _))
      have FBv647 := Lib.hid (FBv646.out.keep hb (Nat.le_refl _))
      have FBu647 := Lib.hid (FBu646.out.keep hb (Nat.le_refl _))
      clear HB46 FBu146 FBu246 FBu346 FBu446 FBu546 FBv146 FBv246 FBv346 FBv446 FBv546 FBv646 FBu646  hb 
      have ccv6_0 : w47.cell? ⟨v6, 0, none⟩ = some (.int .i64 100) := FBv647.out.cell 0 (by rfl)
      have ccv6_1 : w47.cell? ⟨v6, 1, none⟩ = some (.int .i64 50) := FBv647.out.cell 1 (by rfl)
      have ccv6_2 : w47.cell? ⟨v6, 2, none⟩ = some (.int .i64 20) := FBv647.out.cell 2 (by rfl)
      have ccv6_3 : w47.cell? ⟨v6, 3, none⟩ = some (.int .i64 30) := FBv647.out.cell 3 (by rfl)
      have ccv6_4 : w47.cell? ⟨v6, 4, none⟩ = some (.slice (some ⟨u6, 0, none⟩) 7 7) := FBv647.out.cell 4 (by rfl)
      go_wp2_with fail
      clear ccv6_0 ccv6_1 ccv6_2 ccv6_3 ccv6_4
      have hp := nm_chk ⟨100, 50, 20, 30, List.replicate 7 ⟨0, 0, 0, 0, 0⟩⟩ (some ⟨u6, 0, none⟩) 7 3 w47 nm_f6 (by decide) (tk7 FBu647.out)
      have HP := Lib.hid hp
      clear hp
      refine HP.out.mono ?_
      clear HP
      rintro e w48 ⟨rfl, hb⟩
      have HB48 := Lib.hid (HB47.out.trans (hb.mono HB47.out.size))
      have FBu148 := Lib.hid (FBu147.out.keep hb (Nat.le_refl _))
      have FBu248 := Lib.hid (FBu247.out.keep hb (Nat.le_refl _))
      have FBu348 := Lib.hid (FBu347.out.keep hb (Nat.le_refl _))
      have FBu448 := Lib.hid (FBu447.out.keep hb (Nat.le_refl _))
      have FBu548 := Lib.hid (FBu547.out.keep hb (Nat.le_refl _))
      have FBv148 := Lib.hid (FBv147.out.keep hb (Nat.le_refl _))
      have FBv248 := Lib.hid (FBv247.out.keep hb (Nat.le_refl _))
      have FBv348 := Lib.hid (FBv347.out.keep hb (Nat.le_refl _))
      have FBv448 := Lib.hid (FBv447.out.keep hb (Nat.le_refl _))
      have FBv548 := Lib.hid (FBv547.out.keep hb (Nat.le_refl _))
      have FBv648 := Lib.hid (FBv647.out.keep hb (Nat.le_refl _))
      have FBu648 := Lib.hid (FBu647.out.keep hb (Nat.le_refl _))
      clear HB47 FBu147 FBu247 FBu347 FBu447 FBu547 FBv147 FBv247 FBv347 FBv447 FBv547 FBv647 FBu647  hb 
      have hp := nm_chk ⟨0, 0, 0, 0, []⟩ none 0 1 w48 nm_f7 (by decide) (.inl rfl)
      have HP := Lib.hid hp
      clear hp
      go_wp2_with fail
      refine HP.out.mono ?_
      clear HP
      rintro e w49 ⟨rfl, hb⟩
      have HB49 := Lib.hid (HB48.out.trans (hb.mono HB48.out.size))
      have FBu149 := Lib.hid (FBu148.out.keep hb (Nat.le_refl _))
      have FBu249 := Lib.hid (FBu248.out.keep hb (Nat.le_refl _))
      have FBu349 := Lib.hid (FBu348.out.keep hb (Nat.le_refl _))
      have FBu449 := Lib.hid (FBu448.out.keep hb (Nat.le_refl _))
      have FBu549 := Lib.hid (FBu548.out.keep hb (Nat.le_refl _))
      have FBv149 := Lib.hid (FBv148.out.keep hb (Nat.le_refl _))
      have FBv249 := Lib.hid (FBv248.out.keep hb (Nat.le_refl _))
      have FBv349 := Lib.hid (FBv348.out.keep hb (Nat.le_refl _))
      have FBv449 := Lib.hid (FBv448.out.keep hb (Nat.le_refl _))
      have FBv549 := Lib.hid (FBv548.out.keep hb (Nat.le_refl _))
      have FBv649 := Lib.hid (FBv648.out.keep hb (Nat.le_refl _))
      have FBu649 := Lib.hid (FBu648.out.keep hb (Nat.le_refl _))
      clear HB48 FBu148 FBu248 FBu348 FBu448 FBu548 FBv148 FBv248 FBv348 FBv448 FBv548 FBv648 FBu648  hb 
      go_wp2_with fail
      refine (awake_any _).mono ?_
      rintro e w50 ⟨rfl, hb⟩
      have HB50 := Lib.hid (HB49.out.trans (hb.mono HB49.out.size))
      have FBu150 := Lib.hid (FBu149.out.keep hb (Nat.le_refl _))
      have FBu250 := Lib.hid (FBu249.out.keep hb (Nat.le_refl _))
      have FBu350 := Lib.hid (FBu349.out.keep hb (Nat.le_refl _))
      have FBu450 := Lib.hid (FBu449.out.keep hb (Nat.le_refl _))
      have FBu550 := Lib.hid (FBu549.out.keep hb (Nat.le_refl _))
      have FBv150 := Lib.hid (FBv149.out.keep hb (Nat.le_refl _))
      have FBv250 := Lib.hid (FBv249.out.keep hb (Nat.le_refl _))
      have FBv350 := Lib.hid (FBv349.out.keep hb (Nat.le_refl _))
      have FBv450 := Lib.hid (FBv449.out.keep hb (Nat.le_refl _))
      have FBv550 := Lib.hid (FBv549.out.keep hb (Nat.le_refl _))
      have FBv650 := Lib.hid (FBv649.out.keep hb (Nat.le_refl _))
      have FBu650 := Lib.hid (FBu649.out.keep hb (Nat.le_refl _))
      clear HB49 FBu149 FBu249 FBu349 FBu449 FBu549 FBv149 FBv249 FBv349 FBv449 FBv549 FBv649 FBu649  hb 
      go_wp2_with fail
      go_ret
      exact ⟨rfl, HB50.out⟩
end Go.Proofs.Ytefhdcecbmgljaa

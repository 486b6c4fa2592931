/-
  awake: the document's first examples.
-/
import Derived.Test.YtefhdcecbmgljaaTank
import Derived.Test.YtefhdcecbmgljaaPlay
import Derived.Test.YtefhdcecbmgljaaOil
import Derived.Test.YtefhdcecbmgljaaDark2
import Derived.Test.YtefhdcecbmgljaaDeliver
import Derived.Test.YtefhdcecbmgljaaLeaveC
import Derived.Test.YtefhdcecbmgljaaBefore
import Derived.Laws.StructEq
set_option linter.all false
namespace Go.Proofs.Ytefhdcecbmgljaa
open Go.RowKit Go.WalkArith

/-- A slice of ranges reads as two functions. -/
def RngsAt (W : World) (v : Value) (n : Nat) (lo hi : Nat → Int) : Prop :=
  ∃ A cap, v = .slice A n cap ∧ (n = 0 ∨ ∃ b o, A = some ⟨b, o, none⟩ ∧ ∀ i : Nat, i < n → W.cell? ⟨b, o + i * 2, none⟩ = some (.int .i64 (lo i)) ∧ W.cell? ⟨b, o + i * 2 + 1, none⟩ = some (.int .i64 (hi i)))
theorem flatR_length (lo hi : Nat → Int) (n : Nat) : (flatR lo hi n).length = n * 2 := by
  induction n with
  | zero => rfl
  | succ n ih => rw [flatR_succ, List.length_append, ih]; simp; omega
theorem flatR_get (lo hi : Nat → Int) : ∀ (n i : Nat), i < n → (flatR lo hi n)[i * 2]? = some (.int .i64 (lo i)) ∧ (flatR lo hi n)[i * 2 + 1]? = some (.int .i64 (hi i)) := by
  intro n
  induction n with
  | zero => intro i h; omega
  | succ n ih =>
    intro i h
    rw [flatR_succ]
    by_cases e : i = n
    · subst e
      rw [List.getElem?_append_right (by rw [flatR_length]; omega), List.getElem?_append_right (by rw [flatR_length]; omega), flatR_length]
      constructor
      · rw [Nat.sub_self]; rfl
      · rw [show i * 2 + 1 - i * 2 = 1 by omega]; rfl
    · rw [List.getElem?_append_left (by rw [flatR_length]; omega), List.getElem?_append_left (by rw [flatR_length]; omega)]
      exact ih i (by omega)
theorem RngsAt.of_own {W : World} {base t n : Nat} {v : Value} {lo hi : Nat → Int} (h : W.ownsRow base t 2 v n (flatR lo hi n)) : RngsAt W v n lo hi := by
  obtain ⟨_, ⟨rfl, rfl⟩ | ⟨g, cap, cur, rfl, _, hh, _, _, _, ht⟩⟩ := h
  · exact ⟨none, 0, rfl, .inl rfl⟩
  · refine ⟨_, cap, rfl, .inr ⟨g, 0, rfl, fun i hi' => ?_⟩⟩
    have := flatR_get lo hi n i hi'
    rw [← ht, List.getElem?_take_of_lt (by omega), List.getElem?_take_of_lt (by omega)] at this
    simp only [Array.getElem?_toList] at this
    rw [Nat.zero_add]
    constructor
    · rw [show W.cell? ⟨g, i * 2, none⟩ = cur[i * 2]? by simp [World.cell?, hh]]; exact this.1
    · rw [show W.cell? ⟨g, i * 2 + 1, none⟩ = cur[i * 2 + 1]? by simp [World.cell?, hh]]; exact this.2
theorem RngsAt.keep {W W' : World} {v : Value} {n k : Nat} {lo hi : Nat → Int} (h : RngsAt W v n lo hi) (hb : Below k W W') (hk : W.heap.size ≤ k) : RngsAt W' v n lo hi := by
  obtain ⟨A, cap, rfl, hc⟩ := h
  refine ⟨A, cap, rfl, ?_⟩
  rcases hc with h0 | ⟨b, o, rfl, hc⟩
  · exact .inl h0
  · refine .inr ⟨b, o, rfl, fun i hi' => ?_⟩
    obtain ⟨h1, h2⟩ := hc i hi'
    have hb1 := World.block_lt_of_cell? W _ h1
    have hb2 := World.block_lt_of_cell? W _ h2
    exact ⟨(hb.cell (Nat.lt_of_lt_of_le hb1 hk)).trans h1, (hb.cell (Nat.lt_of_lt_of_le hb2 hk)).trans h2⟩
theorem keepS6 {W W' : World} {a b c d e f : Addr} {x y z u v t : Value} (hb : Below W.heap.size W W') (h : W.cell? a = some x ∧ W.cell? b = some y ∧ W.cell? c = some z ∧ W.cell? d = some u ∧ W.cell? e = some v ∧ W.cell? f = some t) : W'.cell? a = some x ∧ W'.cell? b = some y ∧ W'.cell? c = some z ∧ W'.cell? d = some u ∧ W'.cell? e = some v ∧ W'.cell? f = some t :=
  ⟨cell_later hb h.1, cell_later hb h.2.1, cell_later hb h.2.2.1, cell_later hb h.2.2.2.1, cell_later hb h.2.2.2.2.1, cell_later hb h.2.2.2.2.2⟩
theorem dips_new (w : World) : DpsAt (w.alloc (.cells #[.int .i64 0, .int .i64 0, .int .i64 4, .int .i64 0, .int .i64 5, .int .i64 20] 103)) (some ⟨w.heap.size, 0, none⟩) [⟨0, 0, 4⟩, ⟨0, 5, 20⟩] := by
  have hn := Go.heap_alloc_new w (.cells #[.int .i64 0, .int .i64 0, .int .i64 4, .int .i64 0, .int .i64 5, .int .i64 20] 103)
  generalize w.alloc _ = W at hn ⊢
  refine .inr ⟨_, 0, rfl, fun i hi => ?_⟩
  have hi2 : i < 2 := hi
  match i, hi2 with
  | 0, _ => exact ⟨by simp [World.cell?, hn], by simp [World.cell?, hn], by simp [World.cell?, hn]⟩
  | 1, _ => exact ⟨by simp [World.cell?, hn], by simp [World.cell?, hn], by simp [World.cell?, hn]⟩

set_option maxRecDepth 100000 in
set_option maxHeartbeats 8000000 in
theorem awake_any (w : World) : Calls Try.prog 17 #[] w fun e w' => e = .returned (.bool true) ∧ Below w.heap.size w w' := by
  have HB0 := Lib.hid (Below.refl w.heap.size w)
  go_enter Try.func17, Try.ntmps17
  go_wp2_with fail
  refine (tank_any _).mono ?_
  rintro e w1 ⟨b1, rfl, ha, hbx, hb⟩
  clear hbx
  have HB1 := Lib.hid (HB0.out.trans (hb.mono HB0.out.size))
  have FT11 := Lib.hid ha
  clear HB0  ha hb 
  go_wp2_with fail
  refine (plan_any _ _ _ _ _).mono ?_
  rintro e w2 ⟨p1, q1, rfl, hc, hk, hb⟩
  have HB2 := Lib.hid (HB1.out.trans (hb.mono HB1.out.size))
  have FT12 := Lib.hid (FT11.out.keep hb (Nat.le_refl _))
  have FC12 := Lib.hid hc
  have FK12 := Lib.hid hk
  clear HB1 FT11 hc hk hb 
  have hp : Calls Try.prog 20 #[.agg #[.int .i64 100, .int .i64 50, .int .i64 20, .int .i64 30, .slice (some ⟨b1, 0, none⟩) 2 2], .agg #[.slice (some ⟨p1, 0, none⟩) 2 2, .slice (some ⟨q1, 0, none⟩) 2 2], .agg #[.int .i64 22, .slice (some ⟨w2.heap.size, 0, none⟩) 2 2]] (w2.alloc (.cells #[.int .i64 3, .int .i64 2] 3)) (PlayPost tankS [0, 1] [1, 2] 22 [3, 2] (w2.alloc (.cells #[.int .i64 3, .int .i64 2] 3))) := play_any tankS (some ⟨b1, 0, none⟩) 2 (some ⟨p1, 0, none⟩) (some ⟨q1, 0, none⟩) 2 2 [0, 1] [1, 2] 22 (some ⟨w2.heap.size, 0, none⟩) 2 [3, 2] (w2.alloc (.cells #[.int .i64 3, .int .i64 2] 3)) (by decide) (by decide) (by decide) (by decide) (FT12.out.keep ((Below.refl _ _).alloc (Nat.le_refl _) _) (Nat.le_refl _)) (FC12.out.keep ((Below.refl _ _).alloc (Nat.le_refl _) _) (Nat.le_refl _)) (FK12.out.keep ((Below.refl _ _).alloc (Nat.le_refl _) _) (Nat.le_refl _)) (ints_new w2 [3, 2])
  have HP := Lib.hid hp
  clear hp
  go_wp2_with fail
  with_reducible refine HP.out.mono ?_
  clear HP
  rintro e w3 ⟨hb0, ⟨hne, _⟩ | ⟨_, hne, _⟩ | ⟨_, _, v1, v2, v3, rfl, hv⟩⟩
  · exact absurd tank_plan hne
  · rw [tank_truth] at hne; cases hne
  have hv1 : IntsAt w3 v1 [7, 41] := IntsAt.of_own hv.1
  have hv2 : IntsAt w3 v2 [0, 0] := IntsAt.of_own hv.2.1
  have hv3 : BoolsAt w3 v3 [true, true] := BoolsAt.of_own hv.2.2
  have hb : Below w2.heap.size w2 w3 := ((Below.refl _ _).alloc (Nat.le_refl _) (.cells #[.int .i64 3, .int .i64 2] 3)).trans (hb0.mono (by simp))
  clear hb0 hv
  have HB3 := Lib.hid (HB2.out.trans (hb.mono HB2.out.size))
  have FT13 := Lib.hid (FT12.out.keep hb (Nat.le_refl _))
  have FC13 := Lib.hid (FC12.out.keep hb (Nat.le_refl _))
  have FK13 := Lib.hid (FK12.out.keep hb (Nat.le_refl _))
  have FL3 := Lib.hid hv1
  have FB3 := Lib.hid hv2
  have FI3 := Lib.hid hv3
  clear HB2 FT12 FC12 FK12 hv1 hv2 hv3 hb 
  clear FT13
  clear FC13
  clear FK13
  go_wp2_with fail
  refine (tank_any _).mono ?_
  rintro e w4 ⟨b2, rfl, ha, hbx, hb⟩
  clear hbx
  have HB4 := Lib.hid (HB3.out.trans (hb.mono HB3.out.size))
  have FL4 := Lib.hid (FL3.out.keep hb (Nat.le_refl _))
  have FB4 := Lib.hid (FB3.out.keep hb (Nat.le_refl _))
  have FI4 := Lib.hid (FI3.out.keep hb (Nat.le_refl _))
  have FT24 := Lib.hid ha
  clear HB3 FL3 FB3 FI3 ha hb 
  go_wp2_with fail
  refine (plan_any _ _ _ _ _).mono ?_
  rintro e w5 ⟨p2, q2, rfl, hc, hk, hb⟩
  have HB5 := Lib.hid (HB4.out.trans (hb.mono HB4.out.size))
  have FL5 := Lib.hid (FL4.out.keep hb (Nat.le_refl _))
  have FB5 := Lib.hid (FB4.out.keep hb (Nat.le_refl _))
  have FI5 := Lib.hid (FI4.out.keep hb (Nat.le_refl _))
  have FT25 := Lib.hid (FT24.out.keep hb (Nat.le_refl _))
  have FC25 := Lib.hid hc
  have FK25 := Lib.hid hk
  clear HB4 FL4 FB4 FI4 FT24 hc hk hb 
  have hp : Calls Try.prog 45 #[.agg #[.int .i64 100, .int .i64 50, .int .i64 20, .int .i64 30, .slice (some ⟨b2, 0, none⟩) 2 2], .agg #[.slice (some ⟨p2, 0, none⟩) 2 2, .slice (some ⟨q2, 0, none⟩) 2 2], .slice none 0 0] w5 (OilPost tankS [0, 1] [1, 2] [] w5) := oil_any tankS (some ⟨b2, 0, none⟩) 2 (some ⟨p2, 0, none⟩) (some ⟨q2, 0, none⟩) 2 2 [0, 1] [1, 2] none 0 [] w5 (by decide) (by decide) (by decide) (by decide) FT25.out FC25.out FK25.out (.inl rfl)
  have HP := Lib.hid hp
  clear hp
  go_wp2_with fail
  with_reducible refine HP.out.mono ?_
  clear HP
  rintro e w6 ⟨hb, ⟨hne, _⟩ | ⟨_, hne, _⟩ | ⟨_, _, v4, lL, lH, rfl, hr, ho⟩⟩
  · exact absurd tank_dipped hne
  · exact absurd tank_cons hne
  have hra : RngsAt w6 v4 2 lL lH := RngsAt.of_own ho
  have e0 := hr.unique tank_isrng (i := 0) (by decide)
  have e1 := hr.unique tank_isrng (i := 1) (by decide)
  have E0 := Lib.hid e0
  have E1 := Lib.hid e1
  clear hr ho e0 e1
  have HB6 := Lib.hid (HB5.out.trans (hb.mono HB5.out.size))
  have FL6 := Lib.hid (FL5.out.keep hb (Nat.le_refl _))
  have FB6 := Lib.hid (FB5.out.keep hb (Nat.le_refl _))
  have FI6 := Lib.hid (FI5.out.keep hb (Nat.le_refl _))
  have FT26 := Lib.hid (FT25.out.keep hb (Nat.le_refl _))
  have FC26 := Lib.hid (FC25.out.keep hb (Nat.le_refl _))
  have FK26 := Lib.hid (FK25.out.keep hb (Nat.le_refl _))
  have FR6 := Lib.hid hra
  clear HB5 FL5 FB5 FI5 FT25 FC25 FK25 hra hb 
  clear FT26
  clear FC26
  clear FK26
  go_wp2_with fail
  refine (tank_any _).mono ?_
  rintro e w7 ⟨b3, rfl, ha, hbx, hb⟩
  clear hbx
  have HB7 := Lib.hid (HB6.out.trans (hb.mono HB6.out.size))
  have FL7 := Lib.hid (FL6.out.keep hb (Nat.le_refl _))
  have FB7 := Lib.hid (FB6.out.keep hb (Nat.le_refl _))
  have FI7 := Lib.hid (FI6.out.keep hb (Nat.le_refl _))
  have FR7 := Lib.hid (FR6.out.keep hb (Nat.le_refl _))
  have FT37 := Lib.hid ha
  clear HB6 FL6 FB6 FI6 FR6 ha hb 
  go_wp2_with fail
  refine (plan_any _ _ _ _ _).mono ?_
  rintro e w8 ⟨p3, q3, rfl, hc, hk, hb⟩
  have HB8 := Lib.hid (HB7.out.trans (hb.mono HB7.out.size))
  have FL8 := Lib.hid (FL7.out.keep hb (Nat.le_refl _))
  have FB8 := Lib.hid (FB7.out.keep hb (Nat.le_refl _))
  have FI8 := Lib.hid (FI7.out.keep hb (Nat.le_refl _))
  have FR8 := Lib.hid (FR7.out.keep hb (Nat.le_refl _))
  have FT38 := Lib.hid (FT37.out.keep hb (Nat.le_refl _))
  have FC38 := Lib.hid hc
  have FK38 := Lib.hid hk
  clear HB7 FL7 FB7 FI7 FR7 FT37 hc hk hb 
  have hp : Calls Try.prog 46 #[.agg #[.int .i64 100, .int .i64 50, .int .i64 20, .int .i64 30, .slice (some ⟨b3, 0, none⟩) 2 2], .agg #[.slice (some ⟨p3, 0, none⟩) 2 2, .slice (some ⟨q3, 0, none⟩) 2 2]] w8 (DarkPost tankS [0, 0] [2, 1] w8) := Dark_any tankS (some ⟨b3, 0, none⟩) 2 (some ⟨p3, 0, none⟩) (some ⟨q3, 0, none⟩) 2 2 [0, 0] [2, 1] w8 (by decide) (by decide) (by decide) FT38.out FC38.out FK38.out
  have HP := Lib.hid hp
  clear hp
  go_wp2_with fail
  with_reducible refine HP.out.mono ?_
  clear HP
  rintro e w9 ⟨hb, ⟨hne, _⟩ | ⟨_, v5, rfl, hd⟩⟩
  · exact absurd tank_plan2 hne
  rw [tank_dark] at hd
  have hda : IntsAt w9 v5 [0, 1] := IntsAt.of_own hd
  clear hd
  have HB9 := Lib.hid (HB8.out.trans (hb.mono HB8.out.size))
  have FL9 := Lib.hid (FL8.out.keep hb (Nat.le_refl _))
  have FB9 := Lib.hid (FB8.out.keep hb (Nat.le_refl _))
  have FI9 := Lib.hid (FI8.out.keep hb (Nat.le_refl _))
  have FR9 := Lib.hid (FR8.out.keep hb (Nat.le_refl _))
  have FT39 := Lib.hid (FT38.out.keep hb (Nat.le_refl _))
  have FC39 := Lib.hid (FC38.out.keep hb (Nat.le_refl _))
  have FK39 := Lib.hid (FK38.out.keep hb (Nat.le_refl _))
  have FD9 := Lib.hid hda
  clear HB8 FL8 FB8 FI8 FR8 FT38 FC38 FK38 hda hb 
  clear FT39
  clear FC39
  clear FK39
  go_wp2_with fail
  refine (tank_any _).mono ?_
  rintro e w10 ⟨b4, rfl, ha, hbx, hb⟩
  clear hbx
  have HB10 := Lib.hid (HB9.out.trans (hb.mono HB9.out.size))
  have FL10 := Lib.hid (FL9.out.keep hb (Nat.le_refl _))
  have FB10 := Lib.hid (FB9.out.keep hb (Nat.le_refl _))
  have FI10 := Lib.hid (FI9.out.keep hb (Nat.le_refl _))
  have FR10 := Lib.hid (FR9.out.keep hb (Nat.le_refl _))
  have FD10 := Lib.hid (FD9.out.keep hb (Nat.le_refl _))
  have FT410 := Lib.hid ha
  clear HB9 FL9 FB9 FI9 FR9 FD9 ha hb 
  have hp : Calls Try.prog 33 #[.agg #[.int .i64 100, .int .i64 50, .int .i64 20, .int .i64 30, .slice (some ⟨b4, 0, none⟩) 2 2], .slice (some ⟨w10.heap.size, 0, none⟩) 2 2] (w10.alloc (.cells #[.int .i64 1, .int .i64 2] 3)) (DeliverPost tankS [1, 2] (w10.alloc (.cells #[.int .i64 1, .int .i64 2] 3))) := deliver_any tankS (some ⟨b4, 0, none⟩) 2 (some ⟨w10.heap.size, 0, none⟩) 2 [1, 2] (w10.alloc (.cells #[.int .i64 1, .int .i64 2] 3)) (by decide) (by decide) (FT410.out.keep ((Below.refl _ _).alloc (Nat.le_refl _) _) (Nat.le_refl _)) (ints_new w10 [1, 2])
  have HP := Lib.hid hp
  clear hp
  go_wp2_with fail
  with_reducible refine HP.out.mono ?_
  clear HP
  rintro e w11 ⟨hb0, ⟨hne, _⟩ | ⟨_, hne, _⟩ | ⟨_, _, hne, _⟩ | ⟨_, _, _, vG, rfl, hd⟩⟩
  · exact absurd tank_fault hne
  · rw [tank_wicks] at hne; cases hne
  · have h9 : chp tankS (jobD [1, 2]) tankS.ns.length 0 tankS.sl = 1 := tank_chpD
    omega
  have h9 : chp tankS (jobD [1, 2]) tankS.ns.length 0 tankS.sl = 1 := tank_chpD
  have h8 : bestL tankS (jobD [1, 2]) tankS.ns.length 0 tankS.sl = [0, 1] := tank_bestD
  rw [h8] at hd
  rw [h9]
  clear h8 h9
  have hda : IntsAt w11 vG [0, 1] := IntsAt.of_own hd
  clear hd
  have hb : Below w10.heap.size w10 w11 := ((Below.refl _ _).alloc (Nat.le_refl _) (.cells #[.int .i64 1, .int .i64 2] 3)).trans (hb0.mono (by simp))
  clear hb0
  have HB11 := Lib.hid (HB10.out.trans (hb.mono HB10.out.size))
  have FL11 := Lib.hid (FL10.out.keep hb (Nat.le_refl _))
  have FB11 := Lib.hid (FB10.out.keep hb (Nat.le_refl _))
  have FI11 := Lib.hid (FI10.out.keep hb (Nat.le_refl _))
  have FR11 := Lib.hid (FR10.out.keep hb (Nat.le_refl _))
  have FD11 := Lib.hid (FD10.out.keep hb (Nat.le_refl _))
  have FT411 := Lib.hid (FT410.out.keep hb (Nat.le_refl _))
  have FG11 := Lib.hid hda
  clear HB10 FL10 FB10 FI10 FR10 FD10 FT410 hda hb 
  clear FT411
  go_wp2_with fail
  refine (tank_any _).mono ?_
  rintro e w12 ⟨b5, rfl, ha, hbx, hb⟩
  clear hbx
  have HB12 := Lib.hid (HB11.out.trans (hb.mono HB11.out.size))
  have FL12 := Lib.hid (FL11.out.keep hb (Nat.le_refl _))
  have FB12 := Lib.hid (FB11.out.keep hb (Nat.le_refl _))
  have FI12 := Lib.hid (FI11.out.keep hb (Nat.le_refl _))
  have FR12 := Lib.hid (FR11.out.keep hb (Nat.le_refl _))
  have FD12 := Lib.hid (FD11.out.keep hb (Nat.le_refl _))
  have FG12 := Lib.hid (FG11.out.keep hb (Nat.le_refl _))
  have FT512 := Lib.hid ha
  clear HB11 FL11 FB11 FI11 FR11 FD11 FG11 ha hb 
  have hp : Calls Try.prog 38 #[.agg #[.int .i64 100, .int .i64 50, .int .i64 20, .int .i64 30, .slice (some ⟨b5, 0, none⟩) 2 2], .slice (some ⟨w12.heap.size, 0, none⟩) 2 2] (w12.alloc (.cells #[.int .i64 1, .int .i64 0] 3)) (TrimPost tankS [1, 0] (w12.alloc (.cells #[.int .i64 1, .int .i64 0] 3))) := trim_any tankS (some ⟨b5, 0, none⟩) 2 (some ⟨w12.heap.size, 0, none⟩) 2 [1, 0] (w12.alloc (.cells #[.int .i64 1, .int .i64 0] 3)) (by decide) (by decide) (FT512.out.keep ((Below.refl _ _).alloc (Nat.le_refl _) _) (Nat.le_refl _)) (ints_new w12 [1, 0])
  have HP := Lib.hid hp
  clear hp
  go_wp2_with fail
  with_reducible refine HP.out.mono ?_
  clear HP
  rintro e w13 ⟨hb0, ⟨hne, _⟩ | ⟨_, hne, _⟩ | ⟨_, _, hne, _⟩ | ⟨_, _, _, vH, rfl, hd⟩⟩
  · exact absurd tank_fault hne
  · rw [tank_cans] at hne; cases hne
  · have h9 : chp tankS (jobT tankS [1, 0]) tankS.ns.length 0 tankS.sl = -23 := tank_chpT
    omega
  have h9 : chp tankS (jobT tankS [1, 0]) tankS.ns.length 0 tankS.sl = -23 := tank_chpT
  have h8 : bestL tankS (jobT tankS [1, 0]) tankS.ns.length 0 tankS.sl = [3, 2] := tank_bestT
  rw [h8] at hd
  rw [h9]
  clear h8 h9
  have hda : IntsAt w13 vH [3, 2] := IntsAt.of_own hd
  clear hd
  have hb : Below w12.heap.size w12 w13 := ((Below.refl _ _).alloc (Nat.le_refl _) (.cells #[.int .i64 1, .int .i64 0] 3)).trans (hb0.mono (by simp))
  clear hb0
  have HB13 := Lib.hid (HB12.out.trans (hb.mono HB12.out.size))
  have FL13 := Lib.hid (FL12.out.keep hb (Nat.le_refl _))
  have FB13 := Lib.hid (FB12.out.keep hb (Nat.le_refl _))
  have FI13 := Lib.hid (FI12.out.keep hb (Nat.le_refl _))
  have FR13 := Lib.hid (FR12.out.keep hb (Nat.le_refl _))
  have FD13 := Lib.hid (FD12.out.keep hb (Nat.le_refl _))
  have FG13 := Lib.hid (FG12.out.keep hb (Nat.le_refl _))
  have FT513 := Lib.hid (FT512.out.keep hb (Nat.le_refl _))
  have FH13 := Lib.hid hda
  clear HB12 FL12 FB12 FI12 FR12 FD12 FG12 FT512 hda hb 
  clear FT513
  go_wp2_with fail
  refine (tank_any _).mono ?_
  rintro e w14 ⟨b6, rfl, ha, hbx, hb⟩
  clear hbx
  have HB14 := Lib.hid (HB13.out.trans (hb.mono HB13.out.size))
  have FL14 := Lib.hid (FL13.out.keep hb (Nat.le_refl _))
  have FB14 := Lib.hid (FB13.out.keep hb (Nat.le_refl _))
  have FI14 := Lib.hid (FI13.out.keep hb (Nat.le_refl _))
  have FR14 := Lib.hid (FR13.out.keep hb (Nat.le_refl _))
  have FD14 := Lib.hid (FD13.out.keep hb (Nat.le_refl _))
  have FG14 := Lib.hid (FG13.out.keep hb (Nat.le_refl _))
  have FH14 := Lib.hid (FH13.out.keep hb (Nat.le_refl _))
  have FT614 := Lib.hid ha
  clear HB13 FL13 FB13 FI13 FR13 FD13 FG13 FH13 ha hb 
  go_wp2_with fail
  refine (plan_any _ _ _ _ _).mono ?_
  rintro e w15 ⟨p6, q6, rfl, hc, hk, hb⟩
  have HB15 := Lib.hid (HB14.out.trans (hb.mono HB14.out.size))
  have FL15 := Lib.hid (FL14.out.keep hb (Nat.le_refl _))
  have FB15 := Lib.hid (FB14.out.keep hb (Nat.le_refl _))
  have FI15 := Lib.hid (FI14.out.keep hb (Nat.le_refl _))
  have FR15 := Lib.hid (FR14.out.keep hb (Nat.le_refl _))
  have FD15 := Lib.hid (FD14.out.keep hb (Nat.le_refl _))
  have FG15 := Lib.hid (FG14.out.keep hb (Nat.le_refl _))
  have FH15 := Lib.hid (FH14.out.keep hb (Nat.le_refl _))
  have FT615 := Lib.hid (FT614.out.keep hb (Nat.le_refl _))
  have FC615 := Lib.hid hc
  have FK615 := Lib.hid hk
  clear HB14 FL14 FB14 FI14 FR14 FD14 FG14 FH14 FT614 hc hk hb 
  go_wp2_with fail
  refine (between_any _ _ _).mono ?_
  rintro e w16 ⟨rfl, hb⟩
  have HB16 := Lib.hid (HB15.out.trans (hb.mono HB15.out.size))
  have FL16 := Lib.hid (FL15.out.keep hb (Nat.le_refl _))
  have FB16 := Lib.hid (FB15.out.keep hb (Nat.le_refl _))
  have FI16 := Lib.hid (FI15.out.keep hb (Nat.le_refl _))
  have FR16 := Lib.hid (FR15.out.keep hb (Nat.le_refl _))
  have FD16 := Lib.hid (FD15.out.keep hb (Nat.le_refl _))
  have FG16 := Lib.hid (FG15.out.keep hb (Nat.le_refl _))
  have FH16 := Lib.hid (FH15.out.keep hb (Nat.le_refl _))
  have FT616 := Lib.hid (FT615.out.keep hb (Nat.le_refl _))
  have FC616 := Lib.hid (FC615.out.keep hb (Nat.le_refl _))
  have FK616 := Lib.hid (FK615.out.keep hb (Nat.le_refl _))
  clear HB15 FL15 FB15 FI15 FR15 FD15 FG15 FH15 FT615 FC615 FK615  hb 
  go_wp2_with fail
  refine (between_any _ _ _).mono ?_
  rintro e w17 ⟨rfl, hb⟩
  have HB17 := Lib.hid (HB16.out.trans (hb.mono HB16.out.size))
  have FL17 := Lib.hid (FL16.out.keep hb (Nat.le_refl _))
  have FB17 := Lib.hid (FB16.out.keep hb (Nat.le_refl _))
  have FI17 := Lib.hid (FI16.out.keep hb (Nat.le_refl _))
  have FR17 := Lib.hid (FR16.out.keep hb (Nat.le_refl _))
  have FD17 := Lib.hid (FD16.out.keep hb (Nat.le_refl _))
  have FG17 := Lib.hid (FG16.out.keep hb (Nat.le_refl _))
  have FH17 := Lib.hid (FH16.out.keep hb (Nat.le_refl _))
  have FT617 := Lib.hid (FT616.out.keep hb (Nat.le_refl _))
  have FC617 := Lib.hid (FC616.out.keep hb (Nat.le_refl _))
  have FK617 := Lib.hid (FK616.out.keep hb (Nat.le_refl _))
  clear HB16 FL16 FB16 FI16 FR16 FD16 FG16 FH16 FT616 FC616 FK616  hb 
  have hdp : DpsAt (w17.alloc (.cells #[.int .i64 0, .int .i64 0, .int .i64 4, .int .i64 0, .int .i64 5, .int .i64 20] 103)) (some ⟨w17.heap.size, 0, none⟩) [⟨0, 0, 4⟩, ⟨0, 5, 20⟩] := dips_new w17
  have hp : Calls Try.prog 30 #[.agg #[.int .i64 100, .int .i64 50, .int .i64 20, .int .i64 30, .slice (some ⟨b6, 0, none⟩) 2 2], .agg #[.slice (some ⟨p6, 0, none⟩) 2 2, .slice (some ⟨q6, 0, none⟩) 2 2], .slice (some ⟨w17.heap.size, 0, none⟩) 2 2] (w17.alloc (.cells #[.int .i64 0, .int .i64 0, .int .i64 4, .int .i64 0, .int .i64 5, .int .i64 20] 103)) (LeavePost tankS [0, 1] [1, 2] [⟨0, 0, 4⟩, ⟨0, 5, 20⟩] (w17.alloc (.cells #[.int .i64 0, .int .i64 0, .int .i64 4, .int .i64 0, .int .i64 5, .int .i64 20] 103))) := leaveAll_any tankS (some ⟨b6, 0, none⟩) 2 (some ⟨p6, 0, none⟩) (some ⟨q6, 0, none⟩) 2 2 [0, 1] [1, 2] (some ⟨w17.heap.size, 0, none⟩) 2 [⟨0, 0, 4⟩, ⟨0, 5, 20⟩] (w17.alloc (.cells #[.int .i64 0, .int .i64 0, .int .i64 4, .int .i64 0, .int .i64 5, .int .i64 20] 103)) (by decide) (by decide) (by decide) (by decide) (FT617.out.keep ((Below.refl _ _).alloc (Nat.le_refl _) _) (Nat.le_refl _)) (FC617.out.keep ((Below.refl _ _).alloc (Nat.le_refl _) _) (Nat.le_refl _)) (FK617.out.keep ((Below.refl _ _).alloc (Nat.le_refl _) _) (Nat.le_refl _)) hdp
  have HP := Lib.hid hp
  clear hp hdp
  go_wp2_with fail
  with_reducible refine HP.out.mono ?_
  clear HP
  rintro e w18 ⟨hb0, ⟨hne, _⟩ | ⟨_, vX, rfl, hd⟩⟩
  · exact absurd tank_dipped2 hne
  rw [tank_leave] at hd
  have hda : IntsAt w18 vX [0] := IntsAt.of_own hd
  clear hd
  have hb : Below w17.heap.size w17 w18 := ((Below.refl _ _).alloc (Nat.le_refl _) (.cells #[.int .i64 0, .int .i64 0, .int .i64 4, .int .i64 0, .int .i64 5, .int .i64 20] 103)).trans (hb0.mono (by simp))
  clear hb0
  have HB18 := Lib.hid (HB17.out.trans (hb.mono HB17.out.size))
  have FL18 := Lib.hid (FL17.out.keep hb (Nat.le_refl _))
  have FB18 := Lib.hid (FB17.out.keep hb (Nat.le_refl _))
  have FI18 := Lib.hid (FI17.out.keep hb (Nat.le_refl _))
  have FR18 := Lib.hid (FR17.out.keep hb (Nat.le_refl _))
  have FD18 := Lib.hid (FD17.out.keep hb (Nat.le_refl _))
  have FG18 := Lib.hid (FG17.out.keep hb (Nat.le_refl _))
  have FH18 := Lib.hid (FH17.out.keep hb (Nat.le_refl _))
  have FT618 := Lib.hid (FT617.out.keep hb (Nat.le_refl _))
  have FC618 := Lib.hid (FC617.out.keep hb (Nat.le_refl _))
  have FK618 := Lib.hid (FK617.out.keep hb (Nat.le_refl _))
  have FX18 := Lib.hid hda
  clear HB17 FL17 FB17 FI17 FR17 FD17 FG17 FH17 FT617 FC617 FK617 hda hb 
  clear FT618
  clear FC618
  clear FK618
  obtain ⟨A3, c3, rfl, h3⟩ := FI18.out
  obtain ⟨i3, o3, rfl, g3⟩ := h3.resolve_left (by simp)
  have l0 : w18.cell? ⟨i3, o3, none⟩ = some (.bool true) := g3 0 (by decide)
  have l1 : w18.cell? ⟨i3, o3 + 1, none⟩ = some (.bool true) := g3 1 (by decide)
  clear h3 g3
  obtain ⟨A4, c4, rfl, h4⟩ := FR18.out
  obtain ⟨i4, o4, rfl, g4⟩ := h4.resolve_left (by simp)
  have r0 : w18.cell? ⟨i4, o4, none⟩ = some (.int .i64 5) := by have h := (g4 0 (by decide)).1; have h5 := E0.out.1; rw [h5] at h; exact h
  have r1 : w18.cell? ⟨i4, o4 + 1, none⟩ = some (.int .i64 20) := by have h := (g4 0 (by decide)).2; have h5 := E0.out.2; rw [h5] at h; exact h
  have r2 : w18.cell? ⟨i4, o4 + 2, none⟩ = some (.int .i64 39) := by have h := (g4 1 (by decide)).1; have h5 := E1.out.1; rw [h5] at h; exact h
  have r3 : w18.cell? ⟨i4, o4 + 3, none⟩ = some (.int .i64 54) := by have h := (g4 1 (by decide)).2; have h5 := E1.out.2; rw [h5] at h; exact h
  clear h4 g4
  clear FI18
  clear FR18
  obtain ⟨a1, z1, rfl⟩ := FL18.out.slice
  obtain ⟨a2, z2, rfl⟩ := FB18.out.slice
  obtain ⟨a5, z5, rfl⟩ := FD18.out.slice
  obtain ⟨aG, zG, rfl⟩ := FG18.out.slice
  obtain ⟨aH, zH, rfl⟩ := FH18.out.slice
  obtain ⟨aX, zX, rfl⟩ := FX18.out.slice
  simp only [List.length_cons, List.length_nil, Nat.zero_add, Nat.reduceAdd] at FL18 FB18 FD18 FG18 FH18 FX18 ⊢
  go_wp2_with fail
  refine wp_region_held_drew (S := fun X => X.cell? ⟨i3, o3, none⟩ = some (.bool true) ∧ X.cell? ⟨i3, o3 + 1, none⟩ = some (.bool true) ∧ X.cell? ⟨i4, o4, none⟩ = some (.int .i64 5) ∧ X.cell? ⟨i4, o4 + 1, none⟩ = some (.int .i64 20) ∧ X.cell? ⟨i4, o4 + 2, none⟩ = some (.int .i64 39) ∧ X.cell? ⟨i4, o4 + 3, none⟩ = some (.int .i64 54)) (by kernel_rfl) (⟨l0, l1, r0, r1, r2, r3⟩) (fun hS0 => ?_)
  have hb : Below w18.heap.size w18 w18.drew := (Below.refl _ _).drew
  have HB19 := Lib.hid (HB18.out.trans (hb.mono HB18.out.size))
  have FL19 := Lib.hid (FL18.out.keep hb (Nat.le_refl _))
  have FB19 := Lib.hid (FB18.out.keep hb (Nat.le_refl _))
  have FD19 := Lib.hid (FD18.out.keep hb (Nat.le_refl _))
  have FG19 := Lib.hid (FG18.out.keep hb (Nat.le_refl _))
  have FH19 := Lib.hid (FH18.out.keep hb (Nat.le_refl _))
  have FX19 := Lib.hid (FX18.out.keep hb (Nat.le_refl _))
  clear HB18 FL18 FB18 FD18 FG18 FH18 FX18 hb l0 l1 r0 r1 r2 r3
  generalize w18.drew = w19 at HB19 FL19 FB19 FD19 FG19 FH19 FX19 hS0 ⊢
  refine tkX 0 ⟨some 64, .move (.tmp 4), 34, "outright.go:31", #[], none⟩ (v := ?_) hS0 ?_ ?_
  rotate_left
  · intro X ⟨x0, x1, x2, x3, x4, x5⟩; go_simp; try with_reducible rfl
  simp only [Act.put, List.setIfInBounds_toArray, List.set_cons_zero, List.set_cons_succ, Array.toArray_toList]
  refine tkX 1 ⟨some 65, .binOp .eql 34 (.tmp 64) (.const (.int .i64 0)) 34, 4, "outright.go:31", #[⟨0, .data⟩], none⟩ (v := ?_) hS0 ?_ ?_
  rotate_left
  · intro X ⟨x0, x1, x2, x3, x4, x5⟩; go_simp; try with_reducible rfl
  simp only [Act.put, List.setIfInBounds_toArray, List.set_cons_zero, List.set_cons_succ, Array.toArray_toList]
  refine tkX 2 ⟨some 66, .move (.tmp 65), 4, "outright.go:31", #[⟨1, .data⟩], none⟩ (v := ?_) hS0 ?_ ?_
  rotate_left
  · intro X ⟨x0, x1, x2, x3, x4, x5⟩; go_simp; try with_reducible rfl
  simp only [Act.put, List.setIfInBounds_toArray, List.set_cons_zero, List.set_cons_succ, Array.toArray_toList]
  refine tkX 3 ⟨some 67, .move (.tmp 1), 27, "outright.go:31", #[⟨2, .guard⟩], some (2, true)⟩ (v := ?_) hS0 ?_ ?_
  rotate_left
  · intro X ⟨x0, x1, x2, x3, x4, x5⟩; go_simp; try with_reducible rfl
  simp only [Act.put, List.setIfInBounds_toArray, List.set_cons_zero, List.set_cons_succ, Array.toArray_toList]
  refine wpAnyH_ready (rs := [4]) (by as_aux_lemma => kernel_rfl) (by simp) (AllReadyH.cons (o := ⟨some 68, .buildSlice 27 2 #[(0, .const (.int .i64 7)), (1, .const (.int .i64 41))], 27, "outright.go:31", #[⟨2, .guard⟩], some (2, true)⟩) rfl (fun K hK => ?_) AllReadyH.nil)
  go_simp
  have hal : Below w19.heap.size w19 (w19.alloc (.cells #[.int .i64 7, .int .i64 41] 3)) := (Below.refl _ _).alloc (Nat.le_refl _) _
  refine hK.out _ _ ((keepS6 hal hS0)) (fun hS1 => ?_)
  clear hS0 hK K
  refine wpAnyH_ready (rs := [5]) (by as_aux_lemma => kernel_rfl) (by simp) (AllReadyH.cons (o := ⟨some 69, .call ⟨.value (.func 27), #[.tmp 67, .tmp 68], #[27, 27]⟩, 4, "outright.go:31", #[⟨3, .data⟩, ⟨4, .data⟩, ⟨2, .chain⟩, ⟨2, .guard⟩], some (2, true)⟩) rfl (fun K hK => ?_) AllReadyH.nil)
  go_simp
  have hp := same_any (.slice a1 2 z1) (.slice (some ⟨w19.heap.size, 0, none⟩) 2 2) [7, 41] [7, 41] (w19.alloc (.cells #[.int .i64 7, .int .i64 41] 3)) (FL19.out.keep hal (Nat.le_refl _)) (ints_new w19 [7, 41]) (by decide) (by decide)
  rw [show decide (([7, 41] : List Int) = [7, 41]) = true from by simp] at hp
  with_reducible refine hp.mono ?_
  clear hp
  rintro e w20 ⟨rfl, hb0⟩
  have hb : Below w19.heap.size w19 w20 := hal.trans (hb0.mono hal.size)
  go_wp2_with fail
  refine hK.out _ _ ((keepS6 hb0 hS1)) (fun hS2 => ?_)
  clear hS1 hK K
  have HB20 := Lib.hid (HB19.out.trans (hb.mono HB19.out.size))
  have FB20 := Lib.hid (FB19.out.keep hb (Nat.le_refl _))
  have FD20 := Lib.hid (FD19.out.keep hb (Nat.le_refl _))
  have FG20 := Lib.hid (FG19.out.keep hb (Nat.le_refl _))
  have FH20 := Lib.hid (FH19.out.keep hb (Nat.le_refl _))
  have FX20 := Lib.hid (FX19.out.keep hb (Nat.le_refl _))
  clear HB19 FB19 FD19 FG19 FH19 FX19 FL19 hb hb0 hal
  refine tkX 6 ⟨some 70, .pick (.tmp 66) (.tmp 69) (.const (.bool false)), 4, "outright.go:31", #[⟨2, .data⟩, ⟨5, .data⟩], none⟩ (v := ?_) hS2 ?_ ?_
  rotate_left
  · intro X ⟨x0, x1, x2, x3, x4, x5⟩; go_simp; try with_reducible rfl
  simp only [Act.put, List.setIfInBounds_toArray, List.set_cons_zero, List.set_cons_succ, Array.toArray_toList]
  refine tkX 7 ⟨some 71, .move (.tmp 70), 4, "outright.go:31", #[⟨6, .data⟩, ⟨5, .chain⟩], none⟩ (v := ?_) hS2 ?_ ?_
  rotate_left
  · intro X ⟨x0, x1, x2, x3, x4, x5⟩; go_simp; try with_reducible rfl
  simp only [Act.put, List.setIfInBounds_toArray, List.set_cons_zero, List.set_cons_succ, Array.toArray_toList]
  refine tkX 8 ⟨some 72, .move (.tmp 2), 27, "outright.go:31", #[⟨7, .guard⟩], some (7, true)⟩ (v := ?_) hS2 ?_ ?_
  rotate_left
  · intro X ⟨x0, x1, x2, x3, x4, x5⟩; go_simp; try with_reducible rfl
  simp only [Act.put, List.setIfInBounds_toArray, List.set_cons_zero, List.set_cons_succ, Array.toArray_toList]
  refine wpAnyH_ready (rs := [9]) (by as_aux_lemma => kernel_rfl) (by simp) (AllReadyH.cons (o := ⟨some 73, .buildSlice 27 2 #[(0, .const (.int .i64 0)), (1, .const (.int .i64 0))], 27, "outright.go:31", #[⟨7, .guard⟩], some (7, true)⟩) rfl (fun K hK => ?_) AllReadyH.nil)
  go_simp
  have hal : Below w20.heap.size w20 (w20.alloc (.cells #[.int .i64 0, .int .i64 0] 3)) := (Below.refl _ _).alloc (Nat.le_refl _) _
  refine hK.out _ _ ((keepS6 hal hS2)) (fun hS3 => ?_)
  clear hS2 hK K
  refine wpAnyH_ready (rs := [10]) (by as_aux_lemma => kernel_rfl) (by simp) (AllReadyH.cons (o := ⟨some 74, .call ⟨.value (.func 27), #[.tmp 72, .tmp 73], #[27, 27]⟩, 4, "outright.go:31", #[⟨8, .data⟩, ⟨9, .data⟩, ⟨7, .chain⟩, ⟨7, .guard⟩], some (7, true)⟩) rfl (fun K hK => ?_) AllReadyH.nil)
  go_simp
  have hp := same_any (.slice a2 2 z2) (.slice (some ⟨w20.heap.size, 0, none⟩) 2 2) [0, 0] [0, 0] (w20.alloc (.cells #[.int .i64 0, .int .i64 0] 3)) (FB20.out.keep hal (Nat.le_refl _)) (ints_new w20 [0, 0]) (by decide) (by decide)
  rw [show decide (([0, 0] : List Int) = [0, 0]) = true from by simp] at hp
  with_reducible refine hp.mono ?_
  clear hp
  rintro e w21 ⟨rfl, hb0⟩
  have hb : Below w20.heap.size w20 w21 := hal.trans (hb0.mono hal.size)
  go_wp2_with fail
  refine hK.out _ _ ((keepS6 hb0 hS3)) (fun hS4 => ?_)
  clear hS3 hK K
  have HB21 := Lib.hid (HB20.out.trans (hb.mono HB20.out.size))
  have FD21 := Lib.hid (FD20.out.keep hb (Nat.le_refl _))
  have FG21 := Lib.hid (FG20.out.keep hb (Nat.le_refl _))
  have FH21 := Lib.hid (FH20.out.keep hb (Nat.le_refl _))
  have FX21 := Lib.hid (FX20.out.keep hb (Nat.le_refl _))
  clear HB20 FD20 FG20 FH20 FX20 FB20 hb hb0 hal
  refine tkX 11 ⟨some 75, .pick (.tmp 71) (.tmp 74) (.const (.bool false)), 4, "outright.go:31", #[⟨7, .data⟩, ⟨10, .data⟩], none⟩ (v := ?_) hS4 ?_ ?_
  rotate_left
  · intro X ⟨x0, x1, x2, x3, x4, x5⟩; go_simp; try with_reducible rfl
  simp only [Act.put, List.setIfInBounds_toArray, List.set_cons_zero, List.set_cons_succ, Array.toArray_toList]
  refine tkX 12 ⟨some 76, .move (.tmp 75), 4, "outright.go:31", #[⟨11, .data⟩, ⟨10, .chain⟩], none⟩ (v := ?_) hS4 ?_ ?_
  rotate_left
  · intro X ⟨x0, x1, x2, x3, x4, x5⟩; go_simp; try with_reducible rfl
  simp only [Act.put, List.setIfInBounds_toArray, List.set_cons_zero, List.set_cons_succ, Array.toArray_toList]
  refine tkX 13 ⟨some 77, .move (.tmp 3), 41, "outright.go:31", #[⟨12, .guard⟩], some (12, true)⟩ (v := ?_) hS4 ?_ ?_
  rotate_left
  · intro X ⟨x0, x1, x2, x3, x4, x5⟩; go_simp; try with_reducible rfl
  simp only [Act.put, List.setIfInBounds_toArray, List.set_cons_zero, List.set_cons_succ, Array.toArray_toList]
  refine tkX 14 ⟨some 78, .call ⟨.builtin .len, #[.tmp 77], #[41]⟩, 3, "outright.go:31", #[⟨13, .data⟩, ⟨12, .guard⟩], some (12, true)⟩ (v := ?_) hS4 ?_ ?_
  rotate_left
  · intro X ⟨x0, x1, x2, x3, x4, x5⟩; go_simp; try with_reducible rfl
  simp only [Act.put, List.setIfInBounds_toArray, List.set_cons_zero, List.set_cons_succ, Array.toArray_toList]
  refine tkX 15 ⟨some 79, .binOp .eql 3 (.tmp 78) (.const (.int .i64 2)) 3, 4, "outright.go:31", #[⟨14, .data⟩, ⟨12, .guard⟩], some (12, true)⟩ (v := ?_) hS4 ?_ ?_
  rotate_left
  · intro X ⟨x0, x1, x2, x3, x4, x5⟩; go_simp; try with_reducible rfl
  simp only [Act.put, List.setIfInBounds_toArray, List.set_cons_zero, List.set_cons_succ, Array.toArray_toList]
  refine tkX 16 ⟨some 80, .pick (.tmp 76) (.tmp 79) (.const (.bool false)), 4, "outright.go:31", #[⟨12, .data⟩, ⟨15, .data⟩], none⟩ (v := ?_) hS4 ?_ ?_
  rotate_left
  · intro X ⟨x0, x1, x2, x3, x4, x5⟩; go_simp; try with_reducible rfl
  simp only [Act.put, List.setIfInBounds_toArray, List.set_cons_zero, List.set_cons_succ, Array.toArray_toList]
  refine tkX 17 ⟨some 81, .move (.tmp 80), 4, "outright.go:31", #[⟨16, .data⟩, ⟨12, .chain⟩], none⟩ (v := ?_) hS4 ?_ ?_
  rotate_left
  · intro X ⟨x0, x1, x2, x3, x4, x5⟩; go_simp; try with_reducible rfl
  simp only [Act.put, List.setIfInBounds_toArray, List.set_cons_zero, List.set_cons_succ, Array.toArray_toList]
  refine tkX 18 ⟨some 82, .move (.tmp 3), 41, "outright.go:31", #[⟨17, .guard⟩], some (17, true)⟩ (v := ?_) hS4 ?_ ?_
  rotate_left
  · intro X ⟨x0, x1, x2, x3, x4, x5⟩; go_simp; try with_reducible rfl
  simp only [Act.put, List.setIfInBounds_toArray, List.set_cons_zero, List.set_cons_succ, Array.toArray_toList]
  refine tkX 19 ⟨some 83, .indexAddr 41 (.tmp 82) (.const (.int .i64 0)), 0, "outright.go:31", #[⟨18, .data⟩, ⟨17, .guard⟩], some (17, true)⟩ (v := ?_) hS4 ?_ ?_
  rotate_left
  · intro X ⟨x0, x1, x2, x3, x4, x5⟩; go_simp; try with_reducible rfl
  simp only [Act.put, List.setIfInBounds_toArray, List.set_cons_zero, List.set_cons_succ, Array.toArray_toList]
  refine tkX 20 ⟨some 84, .load 4 (.tmp 83), 4, "outright.go:31", #[⟨19, .data⟩, ⟨17, .guard⟩], some (17, true)⟩ (v := ?_) hS4 ?_ ?_
  rotate_left
  · intro X ⟨x0, x1, x2, x3, x4, x5⟩; go_simp; try with_reducible rfl
  simp only [Act.put, List.setIfInBounds_toArray, List.set_cons_zero, List.set_cons_succ, Array.toArray_toList]
  refine tkX 21 ⟨some 85, .pick (.tmp 81) (.tmp 84) (.const (.bool false)), 4, "outright.go:31", #[⟨17, .data⟩, ⟨20, .data⟩], none⟩ (v := ?_) hS4 ?_ ?_
  rotate_left
  · intro X ⟨x0, x1, x2, x3, x4, x5⟩; go_simp; try with_reducible rfl
  simp only [Act.put, List.setIfInBounds_toArray, List.set_cons_zero, List.set_cons_succ, Array.toArray_toList]
  refine tkX 22 ⟨some 86, .move (.tmp 85), 4, "outright.go:31", #[⟨21, .data⟩, ⟨17, .chain⟩], none⟩ (v := ?_) hS4 ?_ ?_
  rotate_left
  · intro X ⟨x0, x1, x2, x3, x4, x5⟩; go_simp; try with_reducible rfl
  simp only [Act.put, List.setIfInBounds_toArray, List.set_cons_zero, List.set_cons_succ, Array.toArray_toList]
  refine tkX 23 ⟨some 87, .move (.tmp 3), 41, "outright.go:31", #[⟨22, .guard⟩], some (22, true)⟩ (v := ?_) hS4 ?_ ?_
  rotate_left
  · intro X ⟨x0, x1, x2, x3, x4, x5⟩; go_simp; try with_reducible rfl
  simp only [Act.put, List.setIfInBounds_toArray, List.set_cons_zero, List.set_cons_succ, Array.toArray_toList]
  refine tkX 24 ⟨some 88, .indexAddr 41 (.tmp 87) (.const (.int .i64 1)), 0, "outright.go:31", #[⟨23, .data⟩, ⟨22, .guard⟩], some (22, true)⟩ (v := ?_) hS4 ?_ ?_
  rotate_left
  · intro X ⟨x0, x1, x2, x3, x4, x5⟩; go_simp; try with_reducible rfl
  simp only [Act.put, List.setIfInBounds_toArray, List.set_cons_zero, List.set_cons_succ, Array.toArray_toList]
  refine tkX 25 ⟨some 89, .load 4 (.tmp 88), 4, "outright.go:31", #[⟨24, .data⟩, ⟨22, .guard⟩], some (22, true)⟩ (v := ?_) hS4 ?_ ?_
  rotate_left
  · intro X ⟨x0, x1, x2, x3, x4, x5⟩; go_simp; try with_reducible rfl
  simp only [Act.put, List.setIfInBounds_toArray, List.set_cons_zero, List.set_cons_succ, Array.toArray_toList]
  refine tkX 26 ⟨some 90, .pick (.tmp 86) (.tmp 89) (.const (.bool false)), 4, "outright.go:31", #[⟨22, .data⟩, ⟨25, .data⟩], none⟩ (v := ?_) hS4 ?_ ?_
  rotate_left
  · intro X ⟨x0, x1, x2, x3, x4, x5⟩; go_simp; try with_reducible rfl
  simp only [Act.put, List.setIfInBounds_toArray, List.set_cons_zero, List.set_cons_succ, Array.toArray_toList]
  refine tkX 27 ⟨some 91, .move (.tmp 90), 4, "outright.go:31", #[⟨26, .data⟩, ⟨22, .chain⟩], none⟩ (v := ?_) hS4 ?_ ?_
  rotate_left
  · intro X ⟨x0, x1, x2, x3, x4, x5⟩; go_simp; try with_reducible rfl
  simp only [Act.put, List.setIfInBounds_toArray, List.set_cons_zero, List.set_cons_succ, Array.toArray_toList]
  refine tkX 28 ⟨some 92, .move (.tmp 6), 34, "outright.go:31", #[⟨27, .guard⟩], some (27, true)⟩ (v := ?_) hS4 ?_ ?_
  rotate_left
  · intro X ⟨x0, x1, x2, x3, x4, x5⟩; go_simp; try with_reducible rfl
  simp only [Act.put, List.setIfInBounds_toArray, List.set_cons_zero, List.set_cons_succ, Array.toArray_toList]
  refine tkX 29 ⟨some 93, .binOp .eql 34 (.tmp 92) (.const (.int .i64 0)) 34, 4, "outright.go:31", #[⟨28, .data⟩, ⟨27, .guard⟩], some (27, true)⟩ (v := ?_) hS4 ?_ ?_
  rotate_left
  · intro X ⟨x0, x1, x2, x3, x4, x5⟩; go_simp; try with_reducible rfl
  simp only [Act.put, List.setIfInBounds_toArray, List.set_cons_zero, List.set_cons_succ, Array.toArray_toList]
  refine tkX 30 ⟨some 94, .pick (.tmp 91) (.tmp 93) (.const (.bool false)), 4, "outright.go:31", #[⟨27, .data⟩, ⟨29, .data⟩], none⟩ (v := ?_) hS4 ?_ ?_
  rotate_left
  · intro X ⟨x0, x1, x2, x3, x4, x5⟩; go_simp; try with_reducible rfl
  simp only [Act.put, List.setIfInBounds_toArray, List.set_cons_zero, List.set_cons_succ, Array.toArray_toList]
  refine tkX 31 ⟨some 95, .move (.tmp 94), 4, "outright.go:31", #[⟨30, .data⟩, ⟨27, .chain⟩], none⟩ (v := ?_) hS4 ?_ ?_
  rotate_left
  · intro X ⟨x0, x1, x2, x3, x4, x5⟩; go_simp; try with_reducible rfl
  simp only [Act.put, List.setIfInBounds_toArray, List.set_cons_zero, List.set_cons_succ, Array.toArray_toList]
  refine tkX 32 ⟨some 96, .move (.tmp 5), 75, "outright.go:31", #[⟨31, .guard⟩], some (31, true)⟩ (v := ?_) hS4 ?_ ?_
  rotate_left
  · intro X ⟨x0, x1, x2, x3, x4, x5⟩; go_simp; try with_reducible rfl
  simp only [Act.put, List.setIfInBounds_toArray, List.set_cons_zero, List.set_cons_succ, Array.toArray_toList]
  refine tkX 33 ⟨some 97, .call ⟨.builtin .len, #[.tmp 96], #[75]⟩, 3, "outright.go:31", #[⟨32, .data⟩, ⟨31, .guard⟩], some (31, true)⟩ (v := ?_) hS4 ?_ ?_
  rotate_left
  · intro X ⟨x0, x1, x2, x3, x4, x5⟩; go_simp; try with_reducible rfl
  simp only [Act.put, List.setIfInBounds_toArray, List.set_cons_zero, List.set_cons_succ, Array.toArray_toList]
  refine tkX 34 ⟨some 98, .binOp .eql 3 (.tmp 97) (.const (.int .i64 2)) 3, 4, "outright.go:31", #[⟨33, .data⟩, ⟨31, .guard⟩], some (31, true)⟩ (v := ?_) hS4 ?_ ?_
  rotate_left
  · intro X ⟨x0, x1, x2, x3, x4, x5⟩; go_simp; try with_reducible rfl
  simp only [Act.put, List.setIfInBounds_toArray, List.set_cons_zero, List.set_cons_succ, Array.toArray_toList]
  refine tkX 35 ⟨some 99, .pick (.tmp 95) (.tmp 98) (.const (.bool false)), 4, "outright.go:31", #[⟨31, .data⟩, ⟨34, .data⟩], none⟩ (v := ?_) hS4 ?_ ?_
  rotate_left
  · intro X ⟨x0, x1, x2, x3, x4, x5⟩; go_simp; try with_reducible rfl
  simp only [Act.put, List.setIfInBounds_toArray, List.set_cons_zero, List.set_cons_succ, Array.toArray_toList]
  refine tkX 36 ⟨some 100, .move (.tmp 99), 4, "outright.go:31", #[⟨35, .data⟩, ⟨31, .chain⟩], none⟩ (v := ?_) hS4 ?_ ?_
  rotate_left
  · intro X ⟨x0, x1, x2, x3, x4, x5⟩; go_simp; try with_reducible rfl
  simp only [Act.put, List.setIfInBounds_toArray, List.set_cons_zero, List.set_cons_succ, Array.toArray_toList]
  refine tkX 37 ⟨some 101, .move (.tmp 5), 75, "outright.go:31", #[⟨36, .guard⟩], some (36, true)⟩ (v := ?_) hS4 ?_ ?_
  rotate_left
  · intro X ⟨x0, x1, x2, x3, x4, x5⟩; go_simp; try with_reducible rfl
  simp only [Act.put, List.setIfInBounds_toArray, List.set_cons_zero, List.set_cons_succ, Array.toArray_toList]
  refine tkX 38 ⟨some 102, .indexAddr 75 (.tmp 101) (.const (.int .i64 0)), 0, "outright.go:31", #[⟨37, .data⟩, ⟨36, .guard⟩], some (36, true)⟩ (v := ?_) hS4 ?_ ?_
  rotate_left
  · intro X ⟨x0, x1, x2, x3, x4, x5⟩; go_simp; try with_reducible rfl
  simp only [Act.put, List.setIfInBounds_toArray, List.set_cons_zero, List.set_cons_succ, Array.toArray_toList]
  refine tkX 39 ⟨some 103, .load 36 (.tmp 102), 36, "outright.go:31", #[⟨38, .data⟩, ⟨36, .guard⟩], some (36, true)⟩ (v := ?_) hS4 ?_ ?_
  rotate_left
  · intro X ⟨x0, x1, x2, x3, x4, x5⟩; go_simp; try with_reducible rfl
  simp only [Act.put, List.setIfInBounds_toArray, List.set_cons_zero, List.set_cons_succ, Array.toArray_toList]
  refine wpAnyH_ready (rs := [40]) (by as_aux_lemma => kernel_rfl) (by simp) (AllReadyH.cons (o := ⟨some 104, .call ⟨.value (.func 57), #[.const (.int .i64 5), .const (.int .i64 20)], #[3, 3]⟩, 36, "outright.go:31", #[⟨36, .chain⟩, ⟨36, .guard⟩], some (36, true)⟩) rfl (fun K hK => ?_) AllReadyH.nil)
  go_simp
  refine (between_any _ _ _).mono ?_
  rintro e w22 ⟨rfl, hb⟩
  go_wp2_with fail
  refine hK.out _ _ ((keepS6 hb hS4)) (fun hS5 => ?_)
  clear hS4 hK K
  have HB22 := Lib.hid (HB21.out.trans (hb.mono HB21.out.size))
  have FD22 := Lib.hid (FD21.out.keep hb (Nat.le_refl _))
  have FG22 := Lib.hid (FG21.out.keep hb (Nat.le_refl _))
  have FH22 := Lib.hid (FH21.out.keep hb (Nat.le_refl _))
  have FX22 := Lib.hid (FX21.out.keep hb (Nat.le_refl _))
  clear HB21 FD21 FG21 FH21 FX21 hb
  refine tkX 41 ⟨some 105, .binOp .eql 36 (.tmp 103) (.tmp 104) 36, 4, "outright.go:31", #[⟨39, .data⟩, ⟨40, .data⟩, ⟨36, .guard⟩], some (36, true)⟩ (v := ?_) hS5 ?_ ?_
  rotate_left
  · intro X ⟨x0, x1, x2, x3, x4, x5⟩; go_simp; try with_reducible rfl
  simp only [Act.put, List.setIfInBounds_toArray, List.set_cons_zero, List.set_cons_succ, Array.toArray_toList]
  refine tkX 42 ⟨some 106, .pick (.tmp 100) (.tmp 105) (.const (.bool false)), 4, "outright.go:31", #[⟨36, .data⟩, ⟨41, .data⟩], none⟩ (v := ?_) hS5 ?_ ?_
  rotate_left
  · intro X ⟨x0, x1, x2, x3, x4, x5⟩; go_simp; try with_reducible rfl
  simp only [Act.put, List.setIfInBounds_toArray, List.set_cons_zero, List.set_cons_succ, Array.toArray_toList]
  refine tkX 43 ⟨some 107, .move (.tmp 106), 4, "outright.go:31", #[⟨42, .data⟩, ⟨40, .chain⟩], none⟩ (v := ?_) hS5 ?_ ?_
  rotate_left
  · intro X ⟨x0, x1, x2, x3, x4, x5⟩; go_simp; try with_reducible rfl
  simp only [Act.put, List.setIfInBounds_toArray, List.set_cons_zero, List.set_cons_succ, Array.toArray_toList]
  refine tkX 44 ⟨some 108, .move (.tmp 5), 75, "outright.go:31", #[⟨43, .guard⟩], some (43, true)⟩ (v := ?_) hS5 ?_ ?_
  rotate_left
  · intro X ⟨x0, x1, x2, x3, x4, x5⟩; go_simp; try with_reducible rfl
  simp only [Act.put, List.setIfInBounds_toArray, List.set_cons_zero, List.set_cons_succ, Array.toArray_toList]
  refine tkX 45 ⟨some 109, .indexAddr 75 (.tmp 108) (.const (.int .i64 1)), 0, "outright.go:31", #[⟨44, .data⟩, ⟨43, .guard⟩], some (43, true)⟩ (v := ?_) hS5 ?_ ?_
  rotate_left
  · intro X ⟨x0, x1, x2, x3, x4, x5⟩; go_simp; try with_reducible rfl
  simp only [Act.put, List.setIfInBounds_toArray, List.set_cons_zero, List.set_cons_succ, Array.toArray_toList]
  refine tkX 46 ⟨some 110, .load 36 (.tmp 109), 36, "outright.go:31", #[⟨45, .data⟩, ⟨43, .guard⟩], some (43, true)⟩ (v := ?_) hS5 ?_ ?_
  rotate_left
  · intro X ⟨x0, x1, x2, x3, x4, x5⟩; go_simp; try with_reducible rfl
  simp only [Act.put, List.setIfInBounds_toArray, List.set_cons_zero, List.set_cons_succ, Array.toArray_toList]
  refine wpAnyH_ready (rs := [47]) (by as_aux_lemma => kernel_rfl) (by simp) (AllReadyH.cons (o := ⟨some 111, .call ⟨.value (.func 57), #[.const (.int .i64 39), .const (.int .i64 54)], #[3, 3]⟩, 36, "outright.go:31", #[⟨43, .chain⟩, ⟨43, .guard⟩], some (43, true)⟩) rfl (fun K hK => ?_) AllReadyH.nil)
  go_simp
  refine (between_any _ _ _).mono ?_
  rintro e w23 ⟨rfl, hb⟩
  go_wp2_with fail
  refine hK.out _ _ ((keepS6 hb hS5)) (fun hS6 => ?_)
  clear hS5 hK K
  have HB23 := Lib.hid (HB22.out.trans (hb.mono HB22.out.size))
  have FD23 := Lib.hid (FD22.out.keep hb (Nat.le_refl _))
  have FG23 := Lib.hid (FG22.out.keep hb (Nat.le_refl _))
  have FH23 := Lib.hid (FH22.out.keep hb (Nat.le_refl _))
  have FX23 := Lib.hid (FX22.out.keep hb (Nat.le_refl _))
  clear HB22 FD22 FG22 FH22 FX22 hb
  refine tkX 48 ⟨some 112, .binOp .eql 36 (.tmp 110) (.tmp 111) 36, 4, "outright.go:31", #[⟨46, .data⟩, ⟨47, .data⟩, ⟨43, .guard⟩], some (43, true)⟩ (v := ?_) hS6 ?_ ?_
  rotate_left
  · intro X ⟨x0, x1, x2, x3, x4, x5⟩; go_simp; try with_reducible rfl
  simp only [Act.put, List.setIfInBounds_toArray, List.set_cons_zero, List.set_cons_succ, Array.toArray_toList]
  refine tkX 49 ⟨some 113, .pick (.tmp 107) (.tmp 112) (.const (.bool false)), 4, "outright.go:31", #[⟨43, .data⟩, ⟨48, .data⟩], none⟩ (v := ?_) hS6 ?_ ?_
  rotate_left
  · intro X ⟨x0, x1, x2, x3, x4, x5⟩; go_simp; try with_reducible rfl
  simp only [Act.put, List.setIfInBounds_toArray, List.set_cons_zero, List.set_cons_succ, Array.toArray_toList]
  refine tkX 50 ⟨some 114, .move (.tmp 113), 4, "outright.go:31", #[⟨49, .data⟩, ⟨47, .chain⟩], none⟩ (v := ?_) hS6 ?_ ?_
  rotate_left
  · intro X ⟨x0, x1, x2, x3, x4, x5⟩; go_simp; try with_reducible rfl
  simp only [Act.put, List.setIfInBounds_toArray, List.set_cons_zero, List.set_cons_succ, Array.toArray_toList]
  refine tkX 51 ⟨some 115, .move (.tmp 8), 34, "outright.go:31", #[⟨50, .guard⟩], some (50, true)⟩ (v := ?_) hS6 ?_ ?_
  rotate_left
  · intro X ⟨x0, x1, x2, x3, x4, x5⟩; go_simp; try with_reducible rfl
  simp only [Act.put, List.setIfInBounds_toArray, List.set_cons_zero, List.set_cons_succ, Array.toArray_toList]
  refine tkX 52 ⟨some 116, .binOp .eql 34 (.tmp 115) (.const (.int .i64 0)) 34, 4, "outright.go:31", #[⟨51, .data⟩, ⟨50, .guard⟩], some (50, true)⟩ (v := ?_) hS6 ?_ ?_
  rotate_left
  · intro X ⟨x0, x1, x2, x3, x4, x5⟩; go_simp; try with_reducible rfl
  simp only [Act.put, List.setIfInBounds_toArray, List.set_cons_zero, List.set_cons_succ, Array.toArray_toList]
  refine tkX 53 ⟨some 117, .pick (.tmp 114) (.tmp 116) (.const (.bool false)), 4, "outright.go:31", #[⟨50, .data⟩, ⟨52, .data⟩], none⟩ (v := ?_) hS6 ?_ ?_
  rotate_left
  · intro X ⟨x0, x1, x2, x3, x4, x5⟩; go_simp; try with_reducible rfl
  simp only [Act.put, List.setIfInBounds_toArray, List.set_cons_zero, List.set_cons_succ, Array.toArray_toList]
  refine tkX 54 ⟨some 118, .move (.tmp 117), 4, "outright.go:31", #[⟨53, .data⟩, ⟨50, .chain⟩], none⟩ (v := ?_) hS6 ?_ ?_
  rotate_left
  · intro X ⟨x0, x1, x2, x3, x4, x5⟩; go_simp; try with_reducible rfl
  simp only [Act.put, List.setIfInBounds_toArray, List.set_cons_zero, List.set_cons_succ, Array.toArray_toList]
  refine tkX 55 ⟨some 119, .move (.tmp 7), 27, "outright.go:31", #[⟨54, .guard⟩], some (54, true)⟩ (v := ?_) hS6 ?_ ?_
  rotate_left
  · intro X ⟨x0, x1, x2, x3, x4, x5⟩; go_simp; try with_reducible rfl
  simp only [Act.put, List.setIfInBounds_toArray, List.set_cons_zero, List.set_cons_succ, Array.toArray_toList]
  refine wpAnyH_ready (rs := [56]) (by as_aux_lemma => kernel_rfl) (by simp) (AllReadyH.cons (o := ⟨some 120, .buildSlice 27 2 #[(0, .const (.int .i64 0)), (1, .const (.int .i64 1))], 27, "outright.go:31", #[⟨54, .guard⟩], some (54, true)⟩) rfl (fun K hK => ?_) AllReadyH.nil)
  go_simp
  have hal : Below w23.heap.size w23 (w23.alloc (.cells #[.int .i64 0, .int .i64 1] 3)) := (Below.refl _ _).alloc (Nat.le_refl _) _
  refine hK.out _ _ ((keepS6 hal hS6)) (fun hS7 => ?_)
  clear hS6 hK K
  refine wpAnyH_ready (rs := [57]) (by as_aux_lemma => kernel_rfl) (by simp) (AllReadyH.cons (o := ⟨some 121, .call ⟨.value (.func 27), #[.tmp 119, .tmp 120], #[27, 27]⟩, 4, "outright.go:31", #[⟨55, .data⟩, ⟨56, .data⟩, ⟨54, .chain⟩, ⟨54, .guard⟩], some (54, true)⟩) rfl (fun K hK => ?_) AllReadyH.nil)
  go_simp
  have hp := same_any (.slice a5 2 z5) (.slice (some ⟨w23.heap.size, 0, none⟩) 2 2) [0, 1] [0, 1] (w23.alloc (.cells #[.int .i64 0, .int .i64 1] 3)) (FD23.out.keep hal (Nat.le_refl _)) (ints_new w23 [0, 1]) (by decide) (by decide)
  rw [show decide (([0, 1] : List Int) = [0, 1]) = true from by simp] at hp
  with_reducible refine hp.mono ?_
  clear hp
  rintro e w24 ⟨rfl, hb0⟩
  have hb : Below w23.heap.size w23 w24 := hal.trans (hb0.mono hal.size)
  go_wp2_with fail
  refine hK.out _ _ ((keepS6 hb0 hS7)) (fun hS8 => ?_)
  clear hS7 hK K
  have HB24 := Lib.hid (HB23.out.trans (hb.mono HB23.out.size))
  have FG24 := Lib.hid (FG23.out.keep hb (Nat.le_refl _))
  have FH24 := Lib.hid (FH23.out.keep hb (Nat.le_refl _))
  have FX24 := Lib.hid (FX23.out.keep hb (Nat.le_refl _))
  clear HB23 FG23 FH23 FX23 FD23 hb hb0 hal
  refine tkX 58 ⟨some 122, .pick (.tmp 118) (.tmp 121) (.const (.bool false)), 4, "outright.go:31", #[⟨54, .data⟩, ⟨57, .data⟩], none⟩ (v := ?_) hS8 ?_ ?_
  rotate_left
  · intro X ⟨x0, x1, x2, x3, x4, x5⟩; go_simp; try with_reducible rfl
  simp only [Act.put, List.setIfInBounds_toArray, List.set_cons_zero, List.set_cons_succ, Array.toArray_toList]
  refine tkX 59 ⟨some 123, .move (.tmp 122), 4, "outright.go:31", #[⟨58, .data⟩, ⟨57, .chain⟩], none⟩ (v := ?_) hS8 ?_ ?_
  rotate_left
  · intro X ⟨x0, x1, x2, x3, x4, x5⟩; go_simp; try with_reducible rfl
  simp only [Act.put, List.setIfInBounds_toArray, List.set_cons_zero, List.set_cons_succ, Array.toArray_toList]
  refine tkX 60 ⟨some 124, .move (.tmp 11), 34, "outright.go:31", #[⟨59, .guard⟩], some (59, true)⟩ (v := ?_) hS8 ?_ ?_
  rotate_left
  · intro X ⟨x0, x1, x2, x3, x4, x5⟩; go_simp; try with_reducible rfl
  simp only [Act.put, List.setIfInBounds_toArray, List.set_cons_zero, List.set_cons_succ, Array.toArray_toList]
  refine tkX 61 ⟨some 125, .binOp .eql 34 (.tmp 124) (.const (.int .i64 0)) 34, 4, "outright.go:31", #[⟨60, .data⟩, ⟨59, .guard⟩], some (59, true)⟩ (v := ?_) hS8 ?_ ?_
  rotate_left
  · intro X ⟨x0, x1, x2, x3, x4, x5⟩; go_simp; try with_reducible rfl
  simp only [Act.put, List.setIfInBounds_toArray, List.set_cons_zero, List.set_cons_succ, Array.toArray_toList]
  refine tkX 62 ⟨some 126, .pick (.tmp 123) (.tmp 125) (.const (.bool false)), 4, "outright.go:31", #[⟨59, .data⟩, ⟨61, .data⟩], none⟩ (v := ?_) hS8 ?_ ?_
  rotate_left
  · intro X ⟨x0, x1, x2, x3, x4, x5⟩; go_simp; try with_reducible rfl
  simp only [Act.put, List.setIfInBounds_toArray, List.set_cons_zero, List.set_cons_succ, Array.toArray_toList]
  refine tkX 63 ⟨some 127, .move (.tmp 126), 4, "outright.go:31", #[⟨62, .data⟩, ⟨59, .chain⟩], none⟩ (v := ?_) hS8 ?_ ?_
  rotate_left
  · intro X ⟨x0, x1, x2, x3, x4, x5⟩; go_simp; try with_reducible rfl
  simp only [Act.put, List.setIfInBounds_toArray, List.set_cons_zero, List.set_cons_succ, Array.toArray_toList]
  refine tkX 64 ⟨some 128, .move (.tmp 10), 3, "outright.go:31", #[⟨63, .guard⟩], some (63, true)⟩ (v := ?_) hS8 ?_ ?_
  rotate_left
  · intro X ⟨x0, x1, x2, x3, x4, x5⟩; go_simp; try with_reducible rfl
  simp only [Act.put, List.setIfInBounds_toArray, List.set_cons_zero, List.set_cons_succ, Array.toArray_toList]
  refine tkX 65 ⟨some 129, .binOp .eql 3 (.tmp 128) (.const (.int .i64 1)) 3, 4, "outright.go:31", #[⟨64, .data⟩, ⟨63, .guard⟩], some (63, true)⟩ (v := ?_) hS8 ?_ ?_
  rotate_left
  · intro X ⟨x0, x1, x2, x3, x4, x5⟩; go_simp; try with_reducible rfl
  simp only [Act.put, List.setIfInBounds_toArray, List.set_cons_zero, List.set_cons_succ, Array.toArray_toList]
  refine tkX 66 ⟨some 130, .pick (.tmp 127) (.tmp 129) (.const (.bool false)), 4, "outright.go:31", #[⟨63, .data⟩, ⟨65, .data⟩], none⟩ (v := ?_) hS8 ?_ ?_
  rotate_left
  · intro X ⟨x0, x1, x2, x3, x4, x5⟩; go_simp; try with_reducible rfl
  simp only [Act.put, List.setIfInBounds_toArray, List.set_cons_zero, List.set_cons_succ, Array.toArray_toList]
  refine tkX 67 ⟨some 131, .move (.tmp 130), 4, "outright.go:31", #[⟨66, .data⟩, ⟨63, .chain⟩], none⟩ (v := ?_) hS8 ?_ ?_
  rotate_left
  · intro X ⟨x0, x1, x2, x3, x4, x5⟩; go_simp; try with_reducible rfl
  simp only [Act.put, List.setIfInBounds_toArray, List.set_cons_zero, List.set_cons_succ, Array.toArray_toList]
  refine tkX 68 ⟨some 132, .move (.tmp 9), 27, "outright.go:31", #[⟨67, .guard⟩], some (67, true)⟩ (v := ?_) hS8 ?_ ?_
  rotate_left
  · intro X ⟨x0, x1, x2, x3, x4, x5⟩; go_simp; try with_reducible rfl
  simp only [Act.put, List.setIfInBounds_toArray, List.set_cons_zero, List.set_cons_succ, Array.toArray_toList]
  refine wpAnyH_ready (rs := [69]) (by as_aux_lemma => kernel_rfl) (by simp) (AllReadyH.cons (o := ⟨some 133, .buildSlice 27 2 #[(0, .const (.int .i64 0)), (1, .const (.int .i64 1))], 27, "outright.go:31", #[⟨67, .guard⟩], some (67, true)⟩) rfl (fun K hK => ?_) AllReadyH.nil)
  go_simp
  have hal : Below w24.heap.size w24 (w24.alloc (.cells #[.int .i64 0, .int .i64 1] 3)) := (Below.refl _ _).alloc (Nat.le_refl _) _
  refine hK.out _ _ ((keepS6 hal hS8)) (fun hS9 => ?_)
  clear hS8 hK K
  refine wpAnyH_ready (rs := [70]) (by as_aux_lemma => kernel_rfl) (by simp) (AllReadyH.cons (o := ⟨some 134, .call ⟨.value (.func 27), #[.tmp 132, .tmp 133], #[27, 27]⟩, 4, "outright.go:31", #[⟨68, .data⟩, ⟨69, .data⟩, ⟨67, .chain⟩, ⟨67, .guard⟩], some (67, true)⟩) rfl (fun K hK => ?_) AllReadyH.nil)
  go_simp
  have hp := same_any (.slice aG 2 zG) (.slice (some ⟨w24.heap.size, 0, none⟩) 2 2) [0, 1] [0, 1] (w24.alloc (.cells #[.int .i64 0, .int .i64 1] 3)) (FG24.out.keep hal (Nat.le_refl _)) (ints_new w24 [0, 1]) (by decide) (by decide)
  rw [show decide (([0, 1] : List Int) = [0, 1]) = true from by simp] at hp
  with_reducible refine hp.mono ?_
  clear hp
  rintro e w25 ⟨rfl, hb0⟩
  have hb : Below w24.heap.size w24 w25 := hal.trans (hb0.mono hal.size)
  go_wp2_with fail
  refine hK.out _ _ ((keepS6 hb0 hS9)) (fun hS10 => ?_)
  clear hS9 hK K
  have HB25 := Lib.hid (HB24.out.trans (hb.mono HB24.out.size))
  have FH25 := Lib.hid (FH24.out.keep hb (Nat.le_refl _))
  have FX25 := Lib.hid (FX24.out.keep hb (Nat.le_refl _))
  clear HB24 FH24 FX24 FG24 hb hb0 hal
  refine tkX 71 ⟨some 135, .pick (.tmp 131) (.tmp 134) (.const (.bool false)), 4, "outright.go:31", #[⟨67, .data⟩, ⟨70, .data⟩], none⟩ (v := ?_) hS10 ?_ ?_
  rotate_left
  · intro X ⟨x0, x1, x2, x3, x4, x5⟩; go_simp; try with_reducible rfl
  simp only [Act.put, List.setIfInBounds_toArray, List.set_cons_zero, List.set_cons_succ, Array.toArray_toList]
  refine tkX 72 ⟨some 136, .move (.tmp 135), 4, "outright.go:31", #[⟨71, .data⟩, ⟨70, .chain⟩], none⟩ (v := ?_) hS10 ?_ ?_
  rotate_left
  · intro X ⟨x0, x1, x2, x3, x4, x5⟩; go_simp; try with_reducible rfl
  simp only [Act.put, List.setIfInBounds_toArray, List.set_cons_zero, List.set_cons_succ, Array.toArray_toList]
  refine tkX 73 ⟨some 137, .move (.tmp 14), 34, "outright.go:31", #[⟨72, .guard⟩], some (72, true)⟩ (v := ?_) hS10 ?_ ?_
  rotate_left
  · intro X ⟨x0, x1, x2, x3, x4, x5⟩; go_simp; try with_reducible rfl
  simp only [Act.put, List.setIfInBounds_toArray, List.set_cons_zero, List.set_cons_succ, Array.toArray_toList]
  refine tkX 74 ⟨some 138, .binOp .eql 34 (.tmp 137) (.const (.int .i64 0)) 34, 4, "outright.go:31", #[⟨73, .data⟩, ⟨72, .guard⟩], some (72, true)⟩ (v := ?_) hS10 ?_ ?_
  rotate_left
  · intro X ⟨x0, x1, x2, x3, x4, x5⟩; go_simp; try with_reducible rfl
  simp only [Act.put, List.setIfInBounds_toArray, List.set_cons_zero, List.set_cons_succ, Array.toArray_toList]
  refine tkX 75 ⟨some 139, .pick (.tmp 136) (.tmp 138) (.const (.bool false)), 4, "outright.go:31", #[⟨72, .data⟩, ⟨74, .data⟩], none⟩ (v := ?_) hS10 ?_ ?_
  rotate_left
  · intro X ⟨x0, x1, x2, x3, x4, x5⟩; go_simp; try with_reducible rfl
  simp only [Act.put, List.setIfInBounds_toArray, List.set_cons_zero, List.set_cons_succ, Array.toArray_toList]
  refine tkX 76 ⟨some 140, .move (.tmp 139), 4, "outright.go:31", #[⟨75, .data⟩, ⟨72, .chain⟩], none⟩ (v := ?_) hS10 ?_ ?_
  rotate_left
  · intro X ⟨x0, x1, x2, x3, x4, x5⟩; go_simp; try with_reducible rfl
  simp only [Act.put, List.setIfInBounds_toArray, List.set_cons_zero, List.set_cons_succ, Array.toArray_toList]
  refine tkX 77 ⟨some 141, .move (.tmp 13), 3, "outright.go:31", #[⟨76, .guard⟩], some (76, true)⟩ (v := ?_) hS10 ?_ ?_
  rotate_left
  · intro X ⟨x0, x1, x2, x3, x4, x5⟩; go_simp; try with_reducible rfl
  simp only [Act.put, List.setIfInBounds_toArray, List.set_cons_zero, List.set_cons_succ, Array.toArray_toList]
  refine tkX 78 ⟨some 142, .binOp .eql 3 (.tmp 141) (.const (.int .i64 23)) 3, 4, "outright.go:31", #[⟨77, .data⟩, ⟨76, .guard⟩], some (76, true)⟩ (v := ?_) hS10 ?_ ?_
  rotate_left
  · intro X ⟨x0, x1, x2, x3, x4, x5⟩; go_simp; try with_reducible rfl
  simp only [Act.put, List.setIfInBounds_toArray, List.set_cons_zero, List.set_cons_succ, Array.toArray_toList]
  refine tkX 79 ⟨some 143, .pick (.tmp 140) (.tmp 142) (.const (.bool false)), 4, "outright.go:31", #[⟨76, .data⟩, ⟨78, .data⟩], none⟩ (v := ?_) hS10 ?_ ?_
  rotate_left
  · intro X ⟨x0, x1, x2, x3, x4, x5⟩; go_simp; try with_reducible rfl
  simp only [Act.put, List.setIfInBounds_toArray, List.set_cons_zero, List.set_cons_succ, Array.toArray_toList]
  refine tkX 80 ⟨some 144, .move (.tmp 143), 4, "outright.go:31", #[⟨79, .data⟩, ⟨76, .chain⟩], none⟩ (v := ?_) hS10 ?_ ?_
  rotate_left
  · intro X ⟨x0, x1, x2, x3, x4, x5⟩; go_simp; try with_reducible rfl
  simp only [Act.put, List.setIfInBounds_toArray, List.set_cons_zero, List.set_cons_succ, Array.toArray_toList]
  refine tkX 81 ⟨some 145, .move (.tmp 12), 27, "outright.go:31", #[⟨80, .guard⟩], some (80, true)⟩ (v := ?_) hS10 ?_ ?_
  rotate_left
  · intro X ⟨x0, x1, x2, x3, x4, x5⟩; go_simp; try with_reducible rfl
  simp only [Act.put, List.setIfInBounds_toArray, List.set_cons_zero, List.set_cons_succ, Array.toArray_toList]
  refine wpAnyH_ready (rs := [82]) (by as_aux_lemma => kernel_rfl) (by simp) (AllReadyH.cons (o := ⟨some 146, .buildSlice 27 2 #[(0, .const (.int .i64 3)), (1, .const (.int .i64 2))], 27, "outright.go:31", #[⟨80, .guard⟩], some (80, true)⟩) rfl (fun K hK => ?_) AllReadyH.nil)
  go_simp
  have hal : Below w25.heap.size w25 (w25.alloc (.cells #[.int .i64 3, .int .i64 2] 3)) := (Below.refl _ _).alloc (Nat.le_refl _) _
  refine hK.out _ _ ((keepS6 hal hS10)) (fun hS11 => ?_)
  clear hS10 hK K
  refine wpAnyH_ready (rs := [83]) (by as_aux_lemma => kernel_rfl) (by simp) (AllReadyH.cons (o := ⟨some 147, .call ⟨.value (.func 27), #[.tmp 145, .tmp 146], #[27, 27]⟩, 4, "outright.go:31", #[⟨81, .data⟩, ⟨82, .data⟩, ⟨80, .chain⟩, ⟨80, .guard⟩], some (80, true)⟩) rfl (fun K hK => ?_) AllReadyH.nil)
  go_simp
  have hp := same_any (.slice aH 2 zH) (.slice (some ⟨w25.heap.size, 0, none⟩) 2 2) [3, 2] [3, 2] (w25.alloc (.cells #[.int .i64 3, .int .i64 2] 3)) (FH25.out.keep hal (Nat.le_refl _)) (ints_new w25 [3, 2]) (by decide) (by decide)
  rw [show decide (([3, 2] : List Int) = [3, 2]) = true from by simp] at hp
  with_reducible refine hp.mono ?_
  clear hp
  rintro e w26 ⟨rfl, hb0⟩
  have hb : Below w25.heap.size w25 w26 := hal.trans (hb0.mono hal.size)
  go_wp2_with fail
  refine hK.out _ _ ((keepS6 hb0 hS11)) (fun hS12 => ?_)
  clear hS11 hK K
  have HB26 := Lib.hid (HB25.out.trans (hb.mono HB25.out.size))
  have FX26 := Lib.hid (FX25.out.keep hb (Nat.le_refl _))
  clear HB25 FX25 FH25 hb hb0 hal
  refine tkX 84 ⟨some 148, .pick (.tmp 144) (.tmp 147) (.const (.bool false)), 4, "outright.go:31", #[⟨80, .data⟩, ⟨83, .data⟩], none⟩ (v := ?_) hS12 ?_ ?_
  rotate_left
  · intro X ⟨x0, x1, x2, x3, x4, x5⟩; go_simp; try with_reducible rfl
  simp only [Act.put, List.setIfInBounds_toArray, List.set_cons_zero, List.set_cons_succ, Array.toArray_toList]
  refine tkX 85 ⟨some 149, .move (.tmp 148), 4, "outright.go:31", #[⟨84, .data⟩, ⟨83, .chain⟩], none⟩ (v := ?_) hS12 ?_ ?_
  rotate_left
  · intro X ⟨x0, x1, x2, x3, x4, x5⟩; go_simp; try with_reducible rfl
  simp only [Act.put, List.setIfInBounds_toArray, List.set_cons_zero, List.set_cons_succ, Array.toArray_toList]
  refine tkX 86 ⟨some 150, .move (.tmp 16), 34, "outright.go:31", #[⟨85, .guard⟩], some (85, true)⟩ (v := ?_) hS12 ?_ ?_
  rotate_left
  · intro X ⟨x0, x1, x2, x3, x4, x5⟩; go_simp; try with_reducible rfl
  simp only [Act.put, List.setIfInBounds_toArray, List.set_cons_zero, List.set_cons_succ, Array.toArray_toList]
  refine tkX 87 ⟨some 151, .binOp .eql 34 (.tmp 150) (.const (.int .i64 0)) 34, 4, "outright.go:31", #[⟨86, .data⟩, ⟨85, .guard⟩], some (85, true)⟩ (v := ?_) hS12 ?_ ?_
  rotate_left
  · intro X ⟨x0, x1, x2, x3, x4, x5⟩; go_simp; try with_reducible rfl
  simp only [Act.put, List.setIfInBounds_toArray, List.set_cons_zero, List.set_cons_succ, Array.toArray_toList]
  refine tkX 88 ⟨some 152, .pick (.tmp 149) (.tmp 151) (.const (.bool false)), 4, "outright.go:31", #[⟨85, .data⟩, ⟨87, .data⟩], none⟩ (v := ?_) hS12 ?_ ?_
  rotate_left
  · intro X ⟨x0, x1, x2, x3, x4, x5⟩; go_simp; try with_reducible rfl
  simp only [Act.put, List.setIfInBounds_toArray, List.set_cons_zero, List.set_cons_succ, Array.toArray_toList]
  refine tkX 89 ⟨some 153, .move (.tmp 152), 4, "outright.go:31", #[⟨88, .data⟩, ⟨85, .chain⟩], none⟩ (v := ?_) hS12 ?_ ?_
  rotate_left
  · intro X ⟨x0, x1, x2, x3, x4, x5⟩; go_simp; try with_reducible rfl
  simp only [Act.put, List.setIfInBounds_toArray, List.set_cons_zero, List.set_cons_succ, Array.toArray_toList]
  refine tkX 90 ⟨some 154, .move (.tmp 15), 27, "outright.go:31", #[⟨89, .guard⟩], some (89, true)⟩ (v := ?_) hS12 ?_ ?_
  rotate_left
  · intro X ⟨x0, x1, x2, x3, x4, x5⟩; go_simp; try with_reducible rfl
  simp only [Act.put, List.setIfInBounds_toArray, List.set_cons_zero, List.set_cons_succ, Array.toArray_toList]
  refine wpAnyH_ready (rs := [91]) (by as_aux_lemma => kernel_rfl) (by simp) (AllReadyH.cons (o := ⟨some 155, .buildSlice 27 1 #[(0, .const (.int .i64 0))], 27, "outright.go:31", #[⟨89, .guard⟩], some (89, true)⟩) rfl (fun K hK => ?_) AllReadyH.nil)
  go_simp
  have hal : Below w26.heap.size w26 (w26.alloc (.cells #[.int .i64 0] 3)) := (Below.refl _ _).alloc (Nat.le_refl _) _
  refine hK.out _ _ ((keepS6 hal hS12)) (fun hS13 => ?_)
  clear hS12 hK K
  refine wpAnyH_ready (rs := [92]) (by as_aux_lemma => kernel_rfl) (by simp) (AllReadyH.cons (o := ⟨some 156, .call ⟨.value (.func 27), #[.tmp 154, .tmp 155], #[27, 27]⟩, 4, "outright.go:31", #[⟨90, .data⟩, ⟨91, .data⟩, ⟨89, .chain⟩, ⟨89, .guard⟩], some (89, true)⟩) rfl (fun K hK => ?_) AllReadyH.nil)
  go_simp
  have hp := same_any (.slice aX 1 zX) (.slice (some ⟨w26.heap.size, 0, none⟩) 1 1) [0] [0] (w26.alloc (.cells #[.int .i64 0] 3)) (FX26.out.keep hal (Nat.le_refl _)) (ints_new w26 [0]) (by decide) (by decide)
  rw [show decide (([0] : List Int) = [0]) = true from by simp] at hp
  with_reducible refine hp.mono ?_
  clear hp
  rintro e w27 ⟨rfl, hb0⟩
  have hb : Below w26.heap.size w26 w27 := hal.trans (hb0.mono hal.size)
  go_wp2_with fail
  refine hK.out _ _ ((keepS6 hb0 hS13)) (fun hS14 => ?_)
  clear hS13 hK K
  have HB27 := Lib.hid (HB26.out.trans (hb.mono HB26.out.size))
  clear HB26  FX26 hb hb0 hal
  refine tkX 93 ⟨some 157, .pick (.tmp 153) (.tmp 156) (.const (.bool false)), 4, "outright.go:31", #[⟨89, .data⟩, ⟨92, .data⟩], none⟩ (v := ?_) hS14 ?_ ?_
  rotate_left
  · intro X ⟨x0, x1, x2, x3, x4, x5⟩; go_simp; try with_reducible rfl
  simp only [Act.put, List.setIfInBounds_toArray, List.set_cons_zero, List.set_cons_succ, Array.toArray_toList]
  refine tkX 94 ⟨some 0, .assign (.tmp 157), 4, "outright.go:31", #[⟨93, .data⟩, ⟨92, .chain⟩, ⟨0, .phase⟩, ⟨1, .phase⟩, ⟨2, .phase⟩, ⟨3, .phase⟩, ⟨4, .phase⟩, ⟨5, .phase⟩, ⟨6, .phase⟩, ⟨7, .phase⟩, ⟨8, .phase⟩, ⟨9, .phase⟩, ⟨10, .phase⟩, ⟨11, .phase⟩, ⟨12, .phase⟩, ⟨13, .phase⟩, ⟨14, .phase⟩, ⟨15, .phase⟩, ⟨16, .phase⟩, ⟨17, .phase⟩, ⟨18, .phase⟩, ⟨19, .phase⟩, ⟨20, .phase⟩, ⟨21, .phase⟩, ⟨22, .phase⟩, ⟨23, .phase⟩, ⟨24, .phase⟩, ⟨25, .phase⟩, ⟨26, .phase⟩, ⟨27, .phase⟩, ⟨28, .phase⟩, ⟨29, .phase⟩, ⟨30, .phase⟩, ⟨31, .phase⟩, ⟨32, .phase⟩, ⟨33, .phase⟩, ⟨34, .phase⟩, ⟨35, .phase⟩, ⟨36, .phase⟩, ⟨37, .phase⟩, ⟨38, .phase⟩, ⟨39, .phase⟩, ⟨40, .phase⟩, ⟨41, .phase⟩, ⟨42, .phase⟩, ⟨43, .phase⟩, ⟨44, .phase⟩, ⟨45, .phase⟩, ⟨46, .phase⟩, ⟨47, .phase⟩, ⟨48, .phase⟩, ⟨49, .phase⟩, ⟨50, .phase⟩, ⟨51, .phase⟩, ⟨52, .phase⟩, ⟨53, .phase⟩, ⟨54, .phase⟩, ⟨55, .phase⟩, ⟨56, .phase⟩, ⟨57, .phase⟩, ⟨58, .phase⟩, ⟨59, .phase⟩, ⟨60, .phase⟩, ⟨61, .phase⟩, ⟨62, .phase⟩, ⟨63, .phase⟩, ⟨64, .phase⟩, ⟨65, .phase⟩, ⟨66, .phase⟩, ⟨67, .phase⟩, ⟨68, .phase⟩, ⟨69, .phase⟩, ⟨70, .phase⟩, ⟨71, .phase⟩, ⟨72, .phase⟩, ⟨73, .phase⟩, ⟨74, .phase⟩, ⟨75, .phase⟩, ⟨76, .phase⟩, ⟨77, .phase⟩, ⟨78, .phase⟩, ⟨79, .phase⟩, ⟨80, .phase⟩, ⟨81, .phase⟩, ⟨82, .phase⟩, ⟨83, .phase⟩, ⟨84, .phase⟩, ⟨85, .phase⟩, ⟨86, .phase⟩, ⟨87, .phase⟩, ⟨88, .phase⟩, ⟨89, .phase⟩, ⟨90, .phase⟩, ⟨91, .phase⟩, ⟨92, .phase⟩, ⟨93, .phase⟩], none⟩ (v := ?_) hS14 ?_ ?_
  rotate_left
  · intro X ⟨x0, x1, x2, x3, x4, x5⟩; go_simp; try with_reducible rfl
  simp only [Act.put, List.setIfInBounds_toArray, List.set_cons_zero, List.set_cons_succ, Array.toArray_toList]
  refine wpAnyH_done (by as_aux_lemma => kernel_rfl) ?_ _
  clear hS14
  go_wp2_with fail
  go_ret
  exact ⟨rfl, HB27.out⟩
end Go.Proofs.Ytefhdcecbmgljaa

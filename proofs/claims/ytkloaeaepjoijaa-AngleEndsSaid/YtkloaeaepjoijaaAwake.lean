/-
  awake.
-/
import Derived.Test.YtkloaeaepjoijaaSix
set_option linter.all false
namespace Go.Proofs.Ytkloaeaepjoijaa
open Go.RowKit Go.WalkArith

/-- A slice of ranges reads as two functions. -/
def RangesAt (W : World) (v : Value) (n : Nat) (lo hi : Int → Int) : Prop :=
  ∃ A cap, v = .slice A n cap ∧ (n = 0 ∨ ∃ b o, A = some ⟨b, o, none⟩ ∧ ∀ i : Nat, i < n → W.cell? ⟨b, o + i * 2, none⟩ = some (.int .i64 (lo i)) ∧ W.cell? ⟨b, o + i * 2 + 1, none⟩ = some (.int .i64 (hi i)))

theorem flatR_length (lo hi : Int → Int) (n : Nat) : (flatR lo hi n).length = n * 2 := by
  induction n with
  | zero => rfl
  | succ n ih => rw [flatR_succ, List.length_append, ih]; simp; omega
theorem flatR_get (lo hi : Int → Int) : ∀ (n i : Nat), i < n → (flatR lo hi n)[i * 2]? = some (.int .i64 (lo i)) ∧ (flatR lo hi n)[i * 2 + 1]? = some (.int .i64 (hi i)) := by
  intro n
  induction n with
  | zero => intro i h; omega
  | succ n ih =>
    intro i h
    rw [flatR_succ]
    by_cases e : i = n
    · subst e
      rw [List.getElem?_append_right (by rw [flatR_length]; omega), List.getElem?_append_right (by rw [flatR_length]; omega), flatR_length]
      constructor
      · rw [Nat.sub_self]; rfl
      · rw [show i * 2 + 1 - i * 2 = 1 by omega]; rfl
    · rw [List.getElem?_append_left (by rw [flatR_length]; omega), List.getElem?_append_left (by rw [flatR_length]; omega)]
      exact ih i (by omega)

theorem RangesAt.of_own {W : World} {base t n : Nat} {v : Value} {lo hi : Int → Int} (h : W.ownsRow base t 2 v n (flatR lo hi n)) : RangesAt W v n lo hi := by
  obtain ⟨_, ⟨rfl, rfl⟩ | ⟨g, cap, cur, rfl, _, hh, _, _, _, ht⟩⟩ := h
  · exact ⟨none, 0, rfl, .inl rfl⟩
  · refine ⟨_, cap, rfl, .inr ⟨g, 0, rfl, fun i hi' => ?_⟩⟩
    have := flatR_get lo hi n i hi'
    rw [← ht, List.getElem?_take_of_lt (by omega), List.getElem?_take_of_lt (by omega)] at this
    simp only [Array.getElem?_toList] at this
    rw [Nat.zero_add]
    constructor
    · rw [show W.cell? ⟨g, i * 2, none⟩ = cur[i * 2]? by simp [World.cell?, hh]]; exact this.1
    · rw [show W.cell? ⟨g, i * 2 + 1, none⟩ = cur[i * 2 + 1]? by simp [World.cell?, hh]]; exact this.2

theorem RangesAt.keep {W W' : World} {v : Value} {n k : Nat} {lo hi : Int → Int} (h : RangesAt W v n lo hi) (hb : Below k W W') (hk : W.heap.size ≤ k) : RangesAt W' v n lo hi := by
  obtain ⟨A, cap, rfl, hc⟩ := h
  refine ⟨A, cap, rfl, ?_⟩
  rcases hc with h0 | ⟨b, o, rfl, hc⟩
  · exact .inl h0
  · refine .inr ⟨b, o, rfl, fun i hi' => ?_⟩
    obtain ⟨h1, h2⟩ := hc i hi'
    have hb1 := World.block_lt_of_cell? W _ h1
    have hb2 := World.block_lt_of_cell? W _ h2
    exact ⟨(hb.cell (Nat.lt_of_lt_of_le hb1 hk)).trans h1, (hb.cell (Nat.lt_of_lt_of_le hb2 hk)).trans h2⟩

/-- What a literal slice of integers reads as. -/
theorem ints_new (w : World) (xs : List Int) : IntsAt (w.alloc (.cells ((xs.map (Value.int .i64)).toArray) 3)) (.slice (some ⟨w.heap.size, 0, none⟩) xs.length xs.length) xs := by
  refine ⟨_, _, rfl, .inr ⟨_, 0, rfl, fun i hi => ?_⟩⟩
  have := Go.heap_alloc_new w (.cells ((xs.map (Value.int .i64)).toArray) 3)
  revert this
  generalize w.alloc _ = W
  intro this
  simp [World.cell?, this, hi]

set_option maxRecDepth 100000 in
set_option maxHeartbeats 4000000 in
theorem awake_any (w : World) : Calls Try.prog 20 #[] w fun e w' => e = .returned (.bool true) ∧ Below w.heap.size w w' := by
  go_enter Try.func20, Try.ntmps20
  go_wp2_with fail
  refine (six_any w).mono ?_
  rintro e w1 ⟨b1, rfl, ha1, hb1⟩
  have hl1 := Lib.hid (least_any _ 6 6 2 1 sixL w1 (by omega) rfl ha1)
  rw [six_leastN, six_leastE] at hl1
  clear ha1
  go_wp2_with fail
  refine hl1.out.mono ?_
  rintro e w2 ⟨rfl, hb2⟩
  have B2 : Below w.heap.size w w2 := hb1.trans (hb2.mono hb1.size)
  have HB2 := Lib.hid B2
  clear hl1 hb1 hb2 B2
  go_wp2_with fail
  refine (six_any w2).mono ?_
  rintro e w3 ⟨b2, rfl, ha3, hb3⟩
  have hl3 := Lib.hid (boundsAll_any _ 6 6 2 1 2 sixL w3 (by omega) rfl ha3)
  clear ha3
  go_wp2_with fail
  refine hl3.out.mono ?_
  rintro e w4 ⟨hb4, ⟨hne, _⟩ | ⟨_, bv, bl, bh, rfl, hbo, hbe⟩⟩
  · exact absurd six_sure2 hne
  have hra : RangesAt w4 bv 6 bl bh := RangesAt.of_own hbo
  have e0 : bl 0 = 8 ∧ bh 0 = 10 := ⟨(hbe.lo 0 (by decide)).unique six_low0, (hbe.hi 0 (by decide)).unique six_high0⟩
  have e4 : bl 4 = 36 ∧ bh 4 = 38 := ⟨(hbe.lo 4 (by decide)).unique six_low4, (hbe.hi 4 (by decide)).unique six_high4⟩
  have e5 : bl 5 = 18 ∧ bh 5 = 20 := ⟨(hbe.lo 5 (by decide)).unique six_low5, (hbe.hi 5 (by decide)).unique six_high5⟩
  have B4 : Below w.heap.size w w4 := (HB2.out.trans (hb3.mono HB2.out.size)).trans (hb4.mono (HB2.out.trans (hb3.mono HB2.out.size)).size)
  have HB4 := Lib.hid B4
  have HRA := Lib.hid hra
  clear hl3 hb3 hb4 B4 hra hbo hbe HB2
  go_wp2_with fail
  refine (six_any w4).mono ?_
  rintro e w5 ⟨b3, rfl, ha5, hb5⟩
  have hl5 := Lib.hid (leaveAll_any _ 6 6 2 1 0 sixL w5 (by omega) rfl ha5)
  clear ha5
  go_wp2_with fail
  refine hl5.out.mono ?_
  rintro e w6 ⟨hb6, ⟨hne, _⟩ | ⟨_, hno, _⟩ | ⟨_, xs, lv, hxs, rfl, hlo⟩⟩
  · exact absurd six_asked0 hne
  · rw [six_leave] at hno; cases hno
  rw [six_leave] at hxs
  cases hxs
  have hia : IntsAt w6 lv [0, 2, 3] := IntsAt.of_own hlo
  have B46 : Below w4.heap.size w4 w6 := hb5.trans (hb6.mono hb5.size)
  have B6 : Below w.heap.size w w6 := HB4.out.trans (B46.mono HB4.out.size)
  have hra6 := HRA.out.keep B46 (Nat.le_refl _)
  have HB6 := Lib.hid B6
  have HRA6 := Lib.hid hra6
  have HIA6 := Lib.hid hia
  clear hl5 hb5 hb6 B6 hra6 HRA hlo hia HB4 B46
  go_wp2_with fail
  refine (six_any w6).mono ?_
  rintro e w7 ⟨b4, rfl, ha7, hb7⟩
  have hl7 := Lib.hid (show_any _ 6 6 2 1 2 sixL w7 (by omega) rfl ha7)
  clear ha7
  go_wp2_with fail
  refine hl7.out.mono ?_
  rintro e w8 ⟨hb8, ⟨hne, _⟩ | ⟨_, sv, x, rfl, hso, hte⟩⟩
  · exact absurd six_sure2 hne
  have hsi : IntsAt w8 sv ((List.range 6).map fun i : Nat => x i) := IntsAt.of_own (by rw [List.map_map]; exact hso)
  have ht2 : truthB sixL 2 1 2 ((List.range 6).map fun i : Nat => x i) = true := truthB_iff.2 ⟨six_asked2, rfl, hte.congr (fun i hi => by rw [fnOf_at (by simp; exact hi)]; simp)⟩
  have ht1 : truthB sixL 2 1 1 ((List.range 6).map fun i : Nat => x i) = false := by
    cases h : truthB sixL 2 1 1 ((List.range 6).map fun i : Nat => x i) with
    | false => rfl
    | true => have := truthB_can h; rw [six_can1] at this; cases this
  obtain ⟨ss, hss⟩ : ∃ ss, (List.range 6).map (fun i : Nat => x i) = ss := ⟨_, rfl⟩
  have hsl : ss.length = 6 := by rw [← hss]; simp
  rw [hss] at hsi ht2 ht1
  have B68 : Below w6.heap.size w6 w8 := hb7.trans (hb8.mono hb7.size)
  have B8 : Below w.heap.size w w8 := HB6.out.trans (B68.mono HB6.out.size)
  have hra8 := HRA6.out.keep B68 (Nat.le_refl _)
  have hia8 := HIA6.out.keep B68 (Nat.le_refl _)
  have HB8 := Lib.hid B8
  have HRA8 := Lib.hid hra8
  have HIA8 := Lib.hid hia8
  have HSI8 := Lib.hid hsi
  have HT2 := Lib.hid ht2
  have HT1 := Lib.hid ht1
  clear hl7 hb7 hb8 B8 hra8 hia8 hsi ht2 ht1 hss hso hte B68 HB6 HRA6 HIA6
  go_wp2_with fail
  refine (six_any w8).mono ?_
  rintro e w9 ⟨b5, rfl, ha9, hb9⟩
  have hl9 := Lib.hid (control_any _ 6 6 2 1 2 sixL w9 (by omega) rfl ha9)
  clear ha9
  go_wp2_with fail
  refine hl9.out.mono ?_
  rintro e wa ⟨hba, ⟨hne, _⟩ | ⟨_, cv, rfl, hco⟩⟩
  · exact absurd six_sure2 hne
  have hci : IntsAt wa cv (ctlL sixL 2 1 2 6) := IntsAt.of_own hco
  obtain ⟨Ac, ccap, rfl, _⟩ := hci
  rw [six_ctl]
  have B8a : Below w8.heap.size w8 wa := hb9.trans (hba.mono hb9.size)
  have Ba : Below w.heap.size w wa := HB8.out.trans (B8a.mono HB8.out.size)
  have hraa := HRA8.out.keep B8a (Nat.le_refl _)
  have hiaa := HIA8.out.keep B8a (Nat.le_refl _)
  have hsia := HSI8.out.keep B8a (Nat.le_refl _)
  have HBa := Lib.hid Ba
  have HIAa := Lib.hid hiaa
  have HSIa := Lib.hid hsia
  obtain ⟨Ab, bcap, rfl, h0 | ⟨rb, ro, rfl, hrc⟩⟩ := hraa
  · cases h0
  have r0 : wa.cell? ⟨rb, ro, none⟩ = some (.int .i64 8) := by have h := (hrc 0 (by decide)).1; rw [show bl ((0 : Nat) : Int) = 8 from e0.1] at h; exact h
  have r1 : wa.cell? ⟨rb, ro + 1, none⟩ = some (.int .i64 10) := by have h := (hrc 0 (by decide)).2; rw [show bh ((0 : Nat) : Int) = 10 from e0.2] at h; exact h
  have r2 : wa.cell? ⟨rb, ro + 8, none⟩ = some (.int .i64 36) := by have h := (hrc 4 (by decide)).1; rw [show bl ((4 : Nat) : Int) = 36 from e4.1] at h; exact h
  have r3 : wa.cell? ⟨rb, ro + 9, none⟩ = some (.int .i64 38) := by have h := (hrc 4 (by decide)).2; rw [show bh ((4 : Nat) : Int) = 38 from e4.2] at h; exact h
  have r4 : wa.cell? ⟨rb, ro + 10, none⟩ = some (.int .i64 18) := by have h := (hrc 5 (by decide)).1; rw [show bl ((5 : Nat) : Int) = 18 from e5.1] at h; exact h
  have r5 : wa.cell? ⟨rb, ro + 11, none⟩ = some (.int .i64 20) := by have h := (hrc 5 (by decide)).2; rw [show bh ((5 : Nat) : Int) = 20 from e5.2] at h; exact h
  clear hl9 hb9 hba B8a Ba hiaa hsia hrc HB8 HRA8 HIA8 HSI8 hco e0 e4 e5
  obtain ⟨As, scap, hsv, _⟩ := HSIa.out
  rw [hsl] at hsv
  subst hsv
  obtain ⟨Al, lcap, hlv, _⟩ := HIAa.out
  have hlv2 : lv = .slice Al 3 lcap := hlv
  have Bal : Below wa.heap.size wa (wa.alloc (.cells #[.int .i64 0, .int .i64 2, .int .i64 3] 3)) := (Below.refl _ _).alloc (Nat.le_refl _) _
  have hints := Lib.hid (ints_any (.slice Al 3 lcap) (.slice (some ⟨wa.heap.size, 0, none⟩) 3 3) [0, 2, 3] [0, 2, 3] (wa.alloc (.cells #[.int .i64 0, .int .i64 2, .int .i64 3] 3)) (hlv2 ▸ HIAa.out.keep Bal (Nat.le_refl _)) (ints_new wa [0, 2, 3]) (by simp))
  rw [show decide (([0, 2, 3] : List Int) = [0, 2, 3]) = true from rfl] at hints
  clear hlv HIAa
  subst hlv2
  go_wp2_with fail
  refine hints.out.mono ?_
  rintro e wb ⟨rfl, hbb⟩
  have Bab : Below wa.heap.size wa wb := Bal.trans (hbb.mono Bal.size)
  have Bb : Below w.heap.size w wb := HBa.out.trans (Bab.mono HBa.out.size)
  have hsib := HSIa.out.keep Bab (Nat.le_refl _)
  have HBb := Lib.hid Bb
  have HSIb := Lib.hid hsib
  clear hints Bal hbb Bab Bb hsib HBa HSIa r0 r1 r2 r3 r4 r5
  go_wp2_with fail
  refine (six_any wb).mono ?_
  rintro e wc ⟨b6, rfl, hac, hbc⟩
  have hlc := Lib.hid (proveTruth_any _ 6 6 2 1 2 sixL _ ss wc (by omega) rfl hac (HSIb.out.keep hbc (Nat.le_refl _)))
  rw [HT2.out] at hlc
  clear hac
  go_wp2_with fail
  refine hlc.out.mono ?_
  rintro e wd ⟨rfl, hbd⟩
  have Bbd : Below wb.heap.size wb wd := hbc.trans (hbd.mono hbc.size)
  have Bd : Below w.heap.size w wd := HBb.out.trans (Bbd.mono HBb.out.size)
  have hsid := HSIb.out.keep Bbd (Nat.le_refl _)
  have HBd := Lib.hid Bd
  have HSId := Lib.hid hsid
  clear hlc hbc hbd Bbd Bd hsid HBb HSIb
  go_wp2_with fail
  refine (six_any wd).mono ?_
  rintro e we ⟨b7, rfl, hae, hbe⟩
  have hle := Lib.hid (proveTruth_any _ 6 6 2 1 1 sixL _ ss we (by omega) rfl hae (HSId.out.keep hbe (Nat.le_refl _)))
  rw [HT1.out] at hle
  clear hae
  go_wp2_with fail
  refine hle.out.mono ?_
  rintro e wf ⟨rfl, hbf⟩
  have Bdf : Below wd.heap.size wd wf := hbe.trans (hbf.mono hbe.size)
  have Bf : Below w.heap.size w wf := HBd.out.trans (Bdf.mono HBd.out.size)
  have HBf := Lib.hid Bf
  clear hle hbe hbf Bdf Bf HBd HSId
  go_wp2_with fail
  refine (six_any wf).mono ?_
  rintro e wg ⟨b8, rfl, hag, hbg⟩
  have Bg1 : Below wg.heap.size wg (wg.alloc (.cells #[.int .i64 0, .int .i64 1] 3)) := (Below.refl _ _).alloc (Nat.le_refl _) _
  have Bg2 : Below wg.heap.size wg ((wg.alloc (.cells #[.int .i64 0, .int .i64 1] 3)).alloc (.cells #[.int .i64 0] 3)) := Bg1.alloc (by simp) _
  have i1 : IntsAt ((wg.alloc (.cells #[.int .i64 0, .int .i64 1] 3)).alloc (.cells #[.int .i64 0] 3)) (.slice (some ⟨wg.heap.size, 0, none⟩) 2 2) [0, 1] := (ints_new wg [0, 1]).keep (Below.refl _ _ |>.alloc (Nat.le_refl _) _) (Nat.le_refl _)
  have i2 : IntsAt ((wg.alloc (.cells #[.int .i64 0, .int .i64 1] 3)).alloc (.cells #[.int .i64 0] 3)) (.slice (some ⟨wg.heap.size + 1, 0, none⟩) 1 1) [0] := by have := ints_new (wg.alloc (.cells #[.int .i64 0, .int .i64 1] 3)) [0]; rw [World.size_alloc] at this; exact this
  have hlg := Lib.hid (proveCut_any _ 6 6 2 1 1 sixL _ _ [0, 1] [0] _ (by omega) rfl (hag.keep Bg2 (Nat.le_refl _)) i1 i2 (by simp) (by simp))
  rw [six_cut] at hlg
  have Bg : Below w.heap.size w ((wg.alloc (.cells #[.int .i64 0, .int .i64 1] 3)).alloc (.cells #[.int .i64 0] 3)) := (HBf.out.trans (hbg.mono HBf.out.size)).trans (Bg2.mono (HBf.out.trans (hbg.mono HBf.out.size)).size)
  have HBg := Lib.hid Bg
  clear hag hbg Bg1 Bg2 i1 i2 Bg HBf
  go_wp2_with fail
  refine hlg.out.mono ?_
  rintro e wh ⟨rfl, hbh⟩
  have Bh : Below w.heap.size w wh := HBg.out.trans (hbh.mono HBg.out.size)
  have HBh := Lib.hid Bh
  clear hlg hbh Bh HBg
  go_wp2_with fail
  go_ret
  exact ⟨rfl, HBh.out⟩
end Go.Proofs.Ytkloaeaepjoijaa

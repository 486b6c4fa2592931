/-
  AngleProved: the walk.
-/
import Derived.Test.YtkloaeaepjoijaaClosedL
import Derived.Test.YtkloaeaepjoijaaProve
import Derived.Test.YtkloaeaepjoijaaLawA
set_option linter.all false
namespace Go.Proofs.Ytkloaeaepjoijaa
open Go.RowKit Go.WalkArith

theorem askedL_vals (l : List Ang) (T C err : Int) : askedL l T C err = 0 ∨ askedL l T C err = 1 ∨ askedL l T C err = 2 ∨ askedL l T C err = 3 := by
  unfold askedL faultL
  (repeat' split) <;> simp_all
section
variable {A : Option Addr} {n cap : Nat} {T C err : Int} {l : List Ang} {w : World}
/-- No cut: the error is told. -/
theorem prove_no (hn : n ≤ 1000000) (hl : l.length = n) (hA : AngsAt w A l) (hs : sureL l T C err ≠ 9) :
    Calls Try.prog 64 #[.agg #[.slice A n cap, .int .i64 T, .int .i64 C], .int .i64 err] w fun e w' => ∃ At Ac tc cc, e = .returned (.tuple #[.agg #[.slice At 0 tc, .slice Ac 0 cc], .int .i64 (if sureL l T C err = 0 then 7 else sureL l T C err)]) ∧ Below w.heap.size w w' := by
  refine (prove_any A n cap T C err l w hn hl hA).mono ?_
  rintro e w' ⟨hb, At, Ac, tc, cc, ts, cs, E, rfl, _, _, _, _, ⟨h0, rfl, rfl, rfl⟩ | ⟨h0, h1, rfl, rfl, rfl⟩ | ⟨h0, h1, _, rfl⟩⟩
  · refine ⟨At, Ac, tc, cc, ?_, hb⟩
    have : sureL l T C err = askedL l T C err := by unfold sureL; rw [if_pos h0]
    rw [this, if_neg h0]; rfl
  · refine ⟨At, Ac, tc, cc, ?_, hb⟩
    have : sureL l T C err = 0 := by unfold sureL; rw [if_neg (by rw [h0]; simp), if_pos h1]
    rw [if_pos this]; rfl
  · exact absurd (by unfold sureL; rw [if_neg (by rw [h0]; simp), h1]; rfl) hs
theorem prove_yes (hn : n ≤ 1000000) (hl : l.length = n) (hA : AngsAt w A l) (hs : sureL l T C err = 9) :
    Calls Try.prog 64 #[.agg #[.slice A n cap, .int .i64 T, .int .i64 C], .int .i64 err] w fun e w' => ∃ At Ac tc cc ts cs, e = .returned (.tuple #[.agg #[.slice At ts.length tc, .slice Ac cs.length cc], .int .i64 0]) ∧ IntsAt w' (.slice At ts.length tc) ts ∧ IntsAt w' (.slice Ac cs.length cc) cs ∧ ts.length ≤ 5 ∧ cs.length ≤ 5 ∧ provesB l T C err ts cs = true ∧ Below w.heap.size w w' := by
  refine (prove_any A n cap T C err l w hn hl hA).mono ?_
  rintro e w' ⟨hb, At, Ac, tc, cc, ts, cs, E, rfl, h2, h3, h4, h5, ⟨h0, rfl, rfl, rfl⟩ | ⟨h0, h1, rfl, rfl, rfl⟩ | ⟨h0, h1, h6, rfl⟩⟩
  · have : sureL l T C err = askedL l T C err := by unfold sureL; rw [if_pos h0]
    have := askedL_vals l T C err
    omega
  · have : sureL l T C err = 0 := by unfold sureL; rw [if_neg (by rw [h0]; simp), if_pos h1]
    omega
  · exact ⟨At, Ac, tc, cc, ts, cs, rfl, h2, h3, h4, h5, h6, hb⟩
theorem sure_nine (h : sureL l T C err = 9) : askedL l T C err = 0 ∧ canE l T C err [] = false := by
  have hv := askedL_vals l T C err
  unfold sureL at h
  split at h
  · omega
  · rename_i h0
    refine ⟨by simpa using h0, ?_⟩
    cases e : canE l T C err [] with
    | false => rfl
    | true => rw [e] at h; simp at h
theorem provesB_no {ts cs : List Int} (hok : NetOk l T C) (h : provesB l T C err ts cs = true) : canE l T C err [] = false := by
  unfold provesB at h
  rw [Bool.and_eq_true, Bool.and_eq_true] at h
  have hd := cut_deny (err := err) hok h.1 h.2.1 (roomLo l err []) (roomHi l err [])
  rw [h.2.2] at hd
  unfold denyB at hd
  exact canB_of_denied hok (mOf_10 _ _) (by simpa using hd)
theorem cutB_no {ts cs : List Int} (h : canE l T C err [] = true) : cutB l T C err ts cs = false := by
  cases e : cutB l T C err ts cs with
  | false => rfl
  | true =>
    rw [cutB_proves, Bool.and_eq_true, decide_eq_true_eq] at e
    rw [provesB_no (askedL_ok e.1).1 e.2] at h
    cases h
end
end Go.Proofs.Ytkloaeaepjoijaa

namespace Go.Proofs.Ytkloaeaepjoijaa
open Go.RowKit Go.WalkArith

theorem least_when {l : List Ang} {T C e : Int} (hok : NetOk l T C) (he0 : 0 ≤ e) (he1 : e ≤ 40) : (leastE l T C = 0 ∨ leastE l T C = 9) ∧ (canE l T C e [] = true ↔ leastE l T C = 0 ∧ leastN l T C ≤ e) := by
  obtain ⟨n, rfl⟩ := Int.eq_ofNat_of_zero_le he0
  unfold leastE leastN
  rw [if_neg (by rw [faultL_zero.2 hok]; simp), if_neg (by rw [faultL_zero.2 hok]; simp)]
  cases hl : leastO l T C with
  | none =>
    refine ⟨.inr rfl, ?_⟩
    rw [leastO_none hl n (by omega)]
    simp
  | some k =>
    obtain ⟨hk, _, hno⟩ := leastO_some hl
    refine ⟨.inl rfl, ?_⟩
    simp only [true_and]
    constructor
    · intro hc
      rcases Nat.lt_or_ge n k with hlt | hge
      · rw [hno n hlt] at hc; cases hc
      · omega
    · intro hle
      exact canE_more hok (by omega) hk
theorem keepS5 {w wx : World} {a b c d e : Addr} {x y z u v : Value} (hb : Below w.heap.size w wx) (h : w.cell? a = some x ∧ w.cell? b = some y ∧ w.cell? c = some z ∧ w.cell? d = some u ∧ w.cell? e = some v) : wx.cell? a = some x ∧ wx.cell? b = some y ∧ wx.cell? c = some z ∧ wx.cell? d = some u ∧ wx.cell? e = some v :=
  ⟨cell_later hb h.1, cell_later hb h.2.1, cell_later hb h.2.2.1, cell_later hb h.2.2.2.1, cell_later hb h.2.2.2.2⟩

set_option maxRecDepth 100000 in
set_option maxHeartbeats 8000000 in
theorem proved_walk (A : Option Addr) (n cap : Nat) (T C : Int) (l : List Ang) (er : Int) (Aw : Option Addr) (capw : Nat) (ws : List Int) (At Ac : Option Addr) (tcap ccap : Nat) (ts cs : List Int) (w : World)
    (hl : l.length = n) (hA : AngsAt w A l) (_ : NilOk A cap) (he0 : 0 ≤ er) (he1 : er ≤ 255) (hW : WordsAt w (.slice Aw ws.length capw) ws) (hWl : ws.length ≤ 9223372036854775807) (hIt : IntsAt w (.slice At ts.length tcap) ts) (hIc : IntsAt w (.slice Ac cs.length ccap) cs) (hNt : NilOk At tcap) (hNc : NilOk Ac ccap) :
    Calls Try.prog 18 #[.agg #[.slice A n cap, .int .i64 T, .int .i64 C], .int .u8 er, .slice Aw ws.length capw, .agg #[.slice At ts.length tcap, .slice Ac cs.length ccap]] w fun e w' => e = .returned (.bool true) ∧ Below w.heap.size w w' := by
  subst hl
  have HA := Lib.hid hA
  have HW := Lib.hid hW
  have HT := Lib.hid hIt
  have HC := Lib.hid hIc
  clear hA hW hIt hIc
  have hB0 : Below w.heap.size w ((w.alloc (.cells #[.slice A l.length cap, .int .i64 T, .int .i64 C] 24)).alloc (.cells #[.slice At ts.length tcap, .slice Ac cs.length ccap] 27)) := ((Below.refl _ _).alloc (Nat.le_refl _) _).alloc (by simp) _
  have hn0 : ((w.alloc (.cells #[.slice A l.length cap, .int .i64 T, .int .i64 C] 24)).alloc (.cells #[.slice At ts.length tcap, .slice Ac cs.length ccap] 27)).heap[w.heap.size]? = some (.cells #[.slice A l.length cap, .int .i64 T, .int .i64 C] 24 (0, 0)) := (Below.heap_alloc _ _ _ (by simp <;> omega)).trans (heap_new_at _ _ _ rfl)
  have hn1 : ((w.alloc (.cells #[.slice A l.length cap, .int .i64 T, .int .i64 C] 24)).alloc (.cells #[.slice At ts.length tcap, .slice Ac cs.length ccap] 27)).heap[w.heap.size + 1]? = some (.cells #[.slice At ts.length tcap, .slice Ac cs.length ccap] 27 (0, 0)) := heap_new_at _ _ _ (by simp)
  have HB1 := Lib.hid hB0
  have NBi1 := Lib.hid hn0
  have NBt1 := Lib.hid hn1
  clear hB0 hn0 hn1
  go_enter Try.func18, Try.ntmps18
  go_wp2_with fail
  generalize ((w.alloc (.cells #[.slice A l.length cap, .int .i64 T, .int .i64 C] 24)).alloc (.cells #[.slice At ts.length tcap, .slice Ac cs.length ccap] 27)) = w1 at HB1 NBi1 NBt1 ⊢
  obtain ⟨Bt, hBt⟩ : ∃ Bt, w.heap.size + 1 = Bt := ⟨_, rfl⟩
  obtain ⟨Bi, hBi⟩ : ∃ Bi, w.heap.size = Bi := ⟨_, rfl⟩
  have oBt : w.heap.size ≤ Bt := by omega
  have oBiBt : Bi < Bt := by omega
  have oBi : w.heap.size ≤ Bi := by omega
  rw [hBt] at NBt1 ⊢
  rw [hBi] at NBi1 ⊢
  clear hBi hBt
  have cBi0_1 : w1.cell? ⟨Bi, 0, none⟩ = some (.slice A l.length cap) := by simp [World.cell?, NBi1.out]
  have cBi1_1 : w1.cell? ⟨Bi, 1, none⟩ = some (.int .i64 T) := by simp [World.cell?, NBi1.out]
  have cBi2_1 : w1.cell? ⟨Bi, 2, none⟩ = some (.int .i64 C) := by simp [World.cell?, NBi1.out]
  have cBt0_1 : w1.cell? ⟨Bt, 0, none⟩ = some (.slice At ts.length tcap) := by simp [World.cell?, NBt1.out]
  have cBt1_1 : w1.cell? ⟨Bt, 1, none⟩ = some (.slice Ac cs.length ccap) := by simp [World.cell?, NBt1.out]
  have hth := Lib.hid (thin_any A l.length cap T C w1)
  by_cases h15 : l.length ≤ 15
  rotate_left
  · have hx15 : 15 < l.length := by omega
    rw [show decide (l.length ≤ 15) = false from (by simp; omega)] at hth
    go_wp2_with fail
    refine (hth.out).mono ?_
    rintro e w2 ⟨rfl, hb⟩
    have HB2 := Lib.hid ((HB1.out).trans (hb.mono (HB1.out).size))
    have NBi2 := Lib.hid ((hb.block Bi (Array.getElem?_eq_some_iff.1 NBi1.out).1).trans NBi1.out)
    have NBt2 := Lib.hid ((hb.block Bt (Array.getElem?_eq_some_iff.1 NBt1.out).1).trans NBt1.out)
    clear HB1 NBi1 NBt1 cBi0_1 cBi1_1 cBi2_1 cBt0_1 cBt1_1  hb hth
    have cBi0_2 : w2.cell? ⟨Bi, 0, none⟩ = some (.slice A l.length cap) := by simp [World.cell?, NBi2.out]
    have cBi1_2 : w2.cell? ⟨Bi, 1, none⟩ = some (.int .i64 T) := by simp [World.cell?, NBi2.out]
    have cBi2_2 : w2.cell? ⟨Bi, 2, none⟩ = some (.int .i64 C) := by simp [World.cell?, NBi2.out]
    have cBt0_2 : w2.cell? ⟨Bt, 0, none⟩ = some (.slice At ts.length tcap) := by simp [World.cell?, NBt2.out]
    have cBt1_2 : w2.cell? ⟨Bt, 1, none⟩ = some (.slice Ac cs.length ccap) := by simp [World.cell?, NBt2.out]
    go_wp2_with fail
    refine (awake_any _).mono ?_
    rintro e w3 ⟨rfl, hb⟩
    have HB3 := Lib.hid ((HB2.out).trans (hb.mono (HB2.out).size))
    have NBi3 := Lib.hid ((hb.block Bi (Array.getElem?_eq_some_iff.1 NBi2.out).1).trans NBi2.out)
    have NBt3 := Lib.hid ((hb.block Bt (Array.getElem?_eq_some_iff.1 NBt2.out).1).trans NBt2.out)
    clear HB2 NBi2 NBt2 cBi0_2 cBi1_2 cBi2_2 cBt0_2 cBt1_2  hb 
    have cBi0_3 : w3.cell? ⟨Bi, 0, none⟩ = some (.slice A l.length cap) := by simp [World.cell?, NBi3.out]
    have cBi1_3 : w3.cell? ⟨Bi, 1, none⟩ = some (.int .i64 T) := by simp [World.cell?, NBi3.out]
    have cBi2_3 : w3.cell? ⟨Bi, 2, none⟩ = some (.int .i64 C) := by simp [World.cell?, NBi3.out]
    have cBt0_3 : w3.cell? ⟨Bt, 0, none⟩ = some (.slice At ts.length tcap) := by simp [World.cell?, NBt3.out]
    have cBt1_3 : w3.cell? ⟨Bt, 1, none⟩ = some (.slice Ac cs.length ccap) := by simp [World.cell?, NBt3.out]
    go_wp2_with fail
    go_ret
    exact ⟨rfl, HB3.out⟩
  · rw [show decide (l.length ≤ 15) = true from (by simp; omega)] at hth
    go_wp2_with fail
    refine (hth.out).mono ?_
    rintro e w2 ⟨rfl, hb⟩
    have HB2 := Lib.hid ((HB1.out).trans (hb.mono (HB1.out).size))
    have NBi2 := Lib.hid ((hb.block Bi (Array.getElem?_eq_some_iff.1 NBi1.out).1).trans NBi1.out)
    have NBt2 := Lib.hid ((hb.block Bt (Array.getElem?_eq_some_iff.1 NBt1.out).1).trans NBt1.out)
    clear HB1 NBi1 NBt1 cBi0_1 cBi1_1 cBi2_1 cBt0_1 cBt1_1  hb hth
    have cBi0_2 : w2.cell? ⟨Bi, 0, none⟩ = some (.slice A l.length cap) := by simp [World.cell?, NBi2.out]
    have cBi1_2 : w2.cell? ⟨Bi, 1, none⟩ = some (.int .i64 T) := by simp [World.cell?, NBi2.out]
    have cBi2_2 : w2.cell? ⟨Bi, 2, none⟩ = some (.int .i64 C) := by simp [World.cell?, NBi2.out]
    have cBt0_2 : w2.cell? ⟨Bt, 0, none⟩ = some (.slice At ts.length tcap) := by simp [World.cell?, NBt2.out]
    have cBt1_2 : w2.cell? ⟨Bt, 1, none⟩ = some (.slice Ac cs.length ccap) := by simp [World.cell?, NBt2.out]
    have hfa := Lib.hid (lawFault_any A l.length cap T C l w2 (by omega) rfl (HA.out.keep HB2.out (Nat.le_refl _)))
    by_cases hf0 : faultL l T C = 0
    rotate_left
    · obtain ⟨F, hF⟩ : ∃ F, faultL l T C = F := ⟨_, rfl⟩
      rw [hF] at hfa hf0
      have hne : (F != 0) = true := by simpa using hf0
      clear hF hf0
      go_wp2_with fail
      refine (hfa.out).mono ?_
      rintro e w3 ⟨rfl, hb⟩
      have HB3 := Lib.hid ((HB2.out).trans (hb.mono (HB2.out).size))
      have NBi3 := Lib.hid ((hb.block Bi (Array.getElem?_eq_some_iff.1 NBi2.out).1).trans NBi2.out)
      have NBt3 := Lib.hid ((hb.block Bt (Array.getElem?_eq_some_iff.1 NBt2.out).1).trans NBt2.out)
      clear HB2 NBi2 NBt2 cBi0_2 cBi1_2 cBi2_2 cBt0_2 cBt1_2  hb hfa
      have cBi0_3 : w3.cell? ⟨Bi, 0, none⟩ = some (.slice A l.length cap) := by simp [World.cell?, NBi3.out]
      have cBi1_3 : w3.cell? ⟨Bi, 1, none⟩ = some (.int .i64 T) := by simp [World.cell?, NBi3.out]
      have cBi2_3 : w3.cell? ⟨Bi, 2, none⟩ = some (.int .i64 C) := by simp [World.cell?, NBi3.out]
      have cBt0_3 : w3.cell? ⟨Bt, 0, none⟩ = some (.slice At ts.length tcap) := by simp [World.cell?, NBt3.out]
      have cBt1_3 : w3.cell? ⟨Bt, 1, none⟩ = some (.slice Ac cs.length ccap) := by simp [World.cell?, NBt3.out]
      go_wp2_with fail
      refine (awake_any _).mono ?_
      rintro e w4 ⟨rfl, hb⟩
      have HB4 := Lib.hid ((HB3.out).trans (hb.mono (HB3.out).size))
      have NBi4 := Lib.hid ((hb.block Bi (Array.getElem?_eq_some_iff.1 NBi3.out).1).trans NBi3.out)
      have NBt4 := Lib.hid ((hb.block Bt (Array.getElem?_eq_some_iff.1 NBt3.out).1).trans NBt3.out)
      clear HB3 NBi3 NBt3 cBi0_3 cBi1_3 cBi2_3 cBt0_3 cBt1_3  hb 
      have cBi0_4 : w4.cell? ⟨Bi, 0, none⟩ = some (.slice A l.length cap) := by simp [World.cell?, NBi4.out]
      have cBi1_4 : w4.cell? ⟨Bi, 1, none⟩ = some (.int .i64 T) := by simp [World.cell?, NBi4.out]
      have cBi2_4 : w4.cell? ⟨Bi, 2, none⟩ = some (.int .i64 C) := by simp [World.cell?, NBi4.out]
      have cBt0_4 : w4.cell? ⟨Bt, 0, none⟩ = some (.slice At ts.length tcap) := by simp [World.cell?, NBt4.out]
      have cBt1_4 : w4.cell? ⟨Bt, 1, none⟩ = some (.slice Ac cs.length ccap) := by simp [World.cell?, NBt4.out]
      go_wp2_with fail
      go_ret
      exact ⟨rfl, HB4.out⟩
    · rw [hf0] at hfa
      have hok := faultL_zero.1 hf0
      obtain ⟨b, o, hAe⟩ := HA.out.some hok.pos
      subst hAe
      have HO := Lib.hid hok
      have hn12 := hok.len
      have hpos := hok.pos
      clear hok hf0
      go_wp2_with fail
      refine (hfa.out).mono ?_
      rintro e w3 ⟨rfl, hb⟩
      have HB3 := Lib.hid ((HB2.out).trans (hb.mono (HB2.out).size))
      have NBi3 := Lib.hid ((hb.block Bi (Array.getElem?_eq_some_iff.1 NBi2.out).1).trans NBi2.out)
      have NBt3 := Lib.hid ((hb.block Bt (Array.getElem?_eq_some_iff.1 NBt2.out).1).trans NBt2.out)
      clear HB2 NBi2 NBt2 cBi0_2 cBi1_2 cBi2_2 cBt0_2 cBt1_2  hb hfa
      have cBi0_3 : w3.cell? ⟨Bi, 0, none⟩ = some (.slice (some ⟨b, o, none⟩) l.length cap) := by simp [World.cell?, NBi3.out]
      have cBi1_3 : w3.cell? ⟨Bi, 1, none⟩ = some (.int .i64 T) := by simp [World.cell?, NBi3.out]
      have cBi2_3 : w3.cell? ⟨Bi, 2, none⟩ = some (.int .i64 C) := by simp [World.cell?, NBi3.out]
      have cBt0_3 : w3.cell? ⟨Bt, 0, none⟩ = some (.slice At ts.length tcap) := by simp [World.cell?, NBt3.out]
      have cBt1_3 : w3.cell? ⟨Bt, 1, none⟩ = some (.slice Ac cs.length ccap) := by simp [World.cell?, NBt3.out]
      by_cases h9 : 9 < ts.length
      · have d1 : decide (9 < ts.length) = true := decide_eq_true h9
        go_wp2_with fail
        refine (awake_any _).mono ?_
        rintro e w4 ⟨rfl, hb⟩
        have HB4 := Lib.hid ((HB3.out).trans (hb.mono (HB3.out).size))
        have NBi4 := Lib.hid ((hb.block Bi (Array.getElem?_eq_some_iff.1 NBi3.out).1).trans NBi3.out)
        have NBt4 := Lib.hid ((hb.block Bt (Array.getElem?_eq_some_iff.1 NBt3.out).1).trans NBt3.out)
        clear HB3 NBi3 NBt3 cBi0_3 cBi1_3 cBi2_3 cBt0_3 cBt1_3  hb 
        have cBi0_4 : w4.cell? ⟨Bi, 0, none⟩ = some (.slice (some ⟨b, o, none⟩) l.length cap) := by simp [World.cell?, NBi4.out]
        have cBi1_4 : w4.cell? ⟨Bi, 1, none⟩ = some (.int .i64 T) := by simp [World.cell?, NBi4.out]
        have cBi2_4 : w4.cell? ⟨Bi, 2, none⟩ = some (.int .i64 C) := by simp [World.cell?, NBi4.out]
        have cBt0_4 : w4.cell? ⟨Bt, 0, none⟩ = some (.slice At ts.length tcap) := by simp [World.cell?, NBt4.out]
        have cBt1_4 : w4.cell? ⟨Bt, 1, none⟩ = some (.slice Ac cs.length ccap) := by simp [World.cell?, NBt4.out]
        go_wp2_with fail
        go_ret
        exact ⟨rfl, HB4.out⟩
      · by_cases h9c : 9 < cs.length
        · have d1 : decide (9 < cs.length) = true := decide_eq_true h9c
          go_wp2_with fail
          refine (awake_any _).mono ?_
          rintro e w4 ⟨rfl, hb⟩
          have HB4 := Lib.hid ((HB3.out).trans (hb.mono (HB3.out).size))
          have NBi4 := Lib.hid ((hb.block Bi (Array.getElem?_eq_some_iff.1 NBi3.out).1).trans NBi3.out)
          have NBt4 := Lib.hid ((hb.block Bt (Array.getElem?_eq_some_iff.1 NBt3.out).1).trans NBt3.out)
          clear HB3 NBi3 NBt3 cBi0_3 cBi1_3 cBi2_3 cBt0_3 cBt1_3  hb 
          have cBi0_4 : w4.cell? ⟨Bi, 0, none⟩ = some (.slice (some ⟨b, o, none⟩) l.length cap) := by simp [World.cell?, NBi4.out]
          have cBi1_4 : w4.cell? ⟨Bi, 1, none⟩ = some (.int .i64 T) := by simp [World.cell?, NBi4.out]
          have cBi2_4 : w4.cell? ⟨Bi, 2, none⟩ = some (.int .i64 C) := by simp [World.cell?, NBi4.out]
          have cBt0_4 : w4.cell? ⟨Bt, 0, none⟩ = some (.slice At ts.length tcap) := by simp [World.cell?, NBt4.out]
          have cBt1_4 : w4.cell? ⟨Bt, 1, none⟩ = some (.slice Ac cs.length ccap) := by simp [World.cell?, NBt4.out]
          go_wp2_with fail
          go_ret
          exact ⟨rfl, HB4.out⟩
        · obtain ⟨e, hE⟩ : ∃ e, er % 41 = e := ⟨_, rfl⟩
          have e0 : 0 ≤ e ∧ e ≤ 40 := by omega
          have HAS := Lib.hid (show askedL l T C e = 0 by unfold askedL; rw [if_neg (by rw [faultL_zero.2 HO.out]; simp), if_pos e0])
          obtain ⟨hwE, hwI⟩ := least_when (e := e) HO.out e0.1 e0.2
          cases hcan : canE l T C e [] with
          | true =>
            rw [hcan] at hwI
            obtain ⟨hE0, hLe⟩ := hwI.1 rfl
            have hsu : sureL l T C e = 0 := by unfold sureL; rw [if_neg (by rw [HAS.out]; simp), if_pos hcan]
            obtain ⟨LN, hLN⟩ : ∃ N, leastN l T C = N := ⟨_, rfl⟩
            rw [hLN] at hLe
            have HLE := Lib.hid (And.intro hE0 hLN)
            have HSU := Lib.hid hsu
            have HCN0 := Lib.hid (cutB_no (ts := ts) (cs := cs) hcan)
            clear hwE hwI hcan hE0 hsu hLN
            go_wp2_with fail
            refine (net_any _ cap T C l _ (HA.out.keep HB3.out (Nat.le_refl _)) (by omega)).mono ?_
            rintro e w4 ⟨Aq1, cq1, rfl, hq, hqn, hb⟩
            have HB4 := Lib.hid ((HB3.out).trans (hb.mono (HB3.out).size))
            have NBi4 := Lib.hid ((hb.block Bi (Array.getElem?_eq_some_iff.1 NBi3.out).1).trans NBi3.out)
            have NBt4 := Lib.hid ((hb.block Bt (Array.getElem?_eq_some_iff.1 NBt3.out).1).trans NBt3.out)
            have FQ14 := Lib.hid hq
            clear HB3 NBi3 NBt3 cBi0_3 cBi1_3 cBi2_3 cBt0_3 cBt1_3 hq hb hqn
            have cBi0_4 : w4.cell? ⟨Bi, 0, none⟩ = some (.slice (some ⟨b, o, none⟩) l.length cap) := by simp [World.cell?, NBi4.out]
            have cBi1_4 : w4.cell? ⟨Bi, 1, none⟩ = some (.int .i64 T) := by simp [World.cell?, NBi4.out]
            have cBi2_4 : w4.cell? ⟨Bi, 2, none⟩ = some (.int .i64 C) := by simp [World.cell?, NBi4.out]
            have cBt0_4 : w4.cell? ⟨Bt, 0, none⟩ = some (.slice At ts.length tcap) := by simp [World.cell?, NBt4.out]
            have cBt1_4 : w4.cell? ⟨Bt, 1, none⟩ = some (.slice Ac cs.length ccap) := by simp [World.cell?, NBt4.out]
            have hsv := Lib.hid (show_yes (cap := cq1) (by omega : l.length ≤ 1000000) rfl FQ14.out HSU.out)
            clear FQ14
            go_wp2_with fail
            refine (hsv.out).mono ?_
            rintro e w5 ⟨Asv, vcp, sx, rfl, hxl0, hIs, hit, hb⟩; have HIT := Lib.hid hit
            have HB5 := Lib.hid ((HB4.out).trans (hb.mono (HB4.out).size))
            have NBi5 := Lib.hid ((hb.block Bi (Array.getElem?_eq_some_iff.1 NBi4.out).1).trans NBi4.out)
            have NBt5 := Lib.hid ((hb.block Bt (Array.getElem?_eq_some_iff.1 NBt4.out).1).trans NBt4.out)
            have FS5 := Lib.hid hIs
            clear HB4 NBi4 NBt4 cBi0_4 cBi1_4 cBi2_4 cBt0_4 cBt1_4 hIs hb hsv hit hxl0
            have cBi0_5 : w5.cell? ⟨Bi, 0, none⟩ = some (.slice (some ⟨b, o, none⟩) l.length cap) := by simp [World.cell?, NBi5.out]
            have cBi1_5 : w5.cell? ⟨Bi, 1, none⟩ = some (.int .i64 T) := by simp [World.cell?, NBi5.out]
            have cBi2_5 : w5.cell? ⟨Bi, 2, none⟩ = some (.int .i64 C) := by simp [World.cell?, NBi5.out]
            have cBt0_5 : w5.cell? ⟨Bt, 0, none⟩ = some (.slice At ts.length tcap) := by simp [World.cell?, NBt5.out]
            have cBt1_5 : w5.cell? ⟨Bt, 1, none⟩ = some (.slice Ac cs.length ccap) := by simp [World.cell?, NBt5.out]
            go_wp2_with fail
            refine (net_any _ cap T C l _ (HA.out.keep HB5.out (Nat.le_refl _)) (by omega)).mono ?_
            rintro e w6 ⟨Aq2, cq2, rfl, hq, hqn, hb⟩
            have HB6 := Lib.hid ((HB5.out).trans (hb.mono (HB5.out).size))
            have NBi6 := Lib.hid ((hb.block Bi (Array.getElem?_eq_some_iff.1 NBi5.out).1).trans NBi5.out)
            have NBt6 := Lib.hid ((hb.block Bt (Array.getElem?_eq_some_iff.1 NBt5.out).1).trans NBt5.out)
            have FS6 := Lib.hid ((FS5.out).keep hb (Nat.le_refl _))
            have FQ26 := Lib.hid hq
            clear HB5 NBi5 NBt5 cBi0_5 cBi1_5 cBi2_5 cBt0_5 cBt1_5 FS5 hq hb hqn
            have cBi0_6 : w6.cell? ⟨Bi, 0, none⟩ = some (.slice (some ⟨b, o, none⟩) l.length cap) := by simp [World.cell?, NBi6.out]
            have cBi1_6 : w6.cell? ⟨Bi, 1, none⟩ = some (.int .i64 T) := by simp [World.cell?, NBi6.out]
            have cBi2_6 : w6.cell? ⟨Bi, 2, none⟩ = some (.int .i64 C) := by simp [World.cell?, NBi6.out]
            have cBt0_6 : w6.cell? ⟨Bt, 0, none⟩ = some (.slice At ts.length tcap) := by simp [World.cell?, NBt6.out]
            have cBt1_6 : w6.cell? ⟨Bt, 1, none⟩ = some (.slice Ac cs.length ccap) := by simp [World.cell?, NBt6.out]
            have hpv := Lib.hid (prove_no (cap := cq2) (by omega : l.length ≤ 1000000) rfl FQ26.out (show sureL l T C e ≠ 9 by rw [HSU.out]; simp))
            rw [HSU.out] at hpv
            simp only [if_true] at hpv
            clear FQ26
            go_wp2_with fail
            refine (hpv.out).mono ?_
            rintro e w7 ⟨Ap, Bp, tp, cp, rfl, hb⟩
            have HB7 := Lib.hid ((HB6.out).trans (hb.mono (HB6.out).size))
            have NBi7 := Lib.hid ((hb.block Bi (Array.getElem?_eq_some_iff.1 NBi6.out).1).trans NBi6.out)
            have NBt7 := Lib.hid ((hb.block Bt (Array.getElem?_eq_some_iff.1 NBt6.out).1).trans NBt6.out)
            have FS7 := Lib.hid ((FS6.out).keep hb (Nat.le_refl _))
            clear HB6 NBi6 NBt6 cBi0_6 cBi1_6 cBi2_6 cBt0_6 cBt1_6 FS6 hb hpv
            have cBi0_7 : w7.cell? ⟨Bi, 0, none⟩ = some (.slice (some ⟨b, o, none⟩) l.length cap) := by simp [World.cell?, NBi7.out]
            have cBi1_7 : w7.cell? ⟨Bi, 1, none⟩ = some (.int .i64 T) := by simp [World.cell?, NBi7.out]
            have cBi2_7 : w7.cell? ⟨Bi, 2, none⟩ = some (.int .i64 C) := by simp [World.cell?, NBi7.out]
            have cBt0_7 : w7.cell? ⟨Bt, 0, none⟩ = some (.slice At ts.length tcap) := by simp [World.cell?, NBt7.out]
            have cBt1_7 : w7.cell? ⟨Bt, 1, none⟩ = some (.slice Ac cs.length ccap) := by simp [World.cell?, NBt7.out]
            have lBi := (Array.getElem?_eq_some_iff.1 NBi7.out).1
            have lBt := (Array.getElem?_eq_some_iff.1 NBt7.out).1
            go_wp2_with fail
            have hbx : Below w7.heap.size w7 (w7.alloc (.cells #[.slice Ap 0 tp, .slice Bp 0 cp] 37)) := (Below.refl _ _).alloc (Nat.le_refl _) _
            have hnx := Go.heap_alloc_new w7 (.cells #[.slice Ap 0 tp, .slice Bp 0 cp] 37)
            obtain ⟨Bp2, hBp2⟩ : ∃ x, w7.heap.size = x := ⟨_, rfl⟩
            have oBp2 : w.heap.size ≤ Bp2 := by have := HB7.out.size; omega
            have oBiBp2 : Bi < Bp2 := by have := (Array.getElem?_eq_some_iff.1 NBi7.out).1; omega
            have oBtBp2 : Bt < Bp2 := by have := (Array.getElem?_eq_some_iff.1 NBt7.out).1; omega
            generalize hwx : w7.alloc (.cells #[.slice Ap 0 tp, .slice Bp 0 cp] 37) = w8 at hbx hnx ⊢
            have HB8 := Lib.hid ((HB7.out).trans (hbx.mono (HB7.out).size))
            have NBi8 := Lib.hid ((hbx.block Bi (Array.getElem?_eq_some_iff.1 NBi7.out).1).trans NBi7.out)
            have NBt8 := Lib.hid ((hbx.block Bt (Array.getElem?_eq_some_iff.1 NBt7.out).1).trans NBt7.out)
            have FS8 := Lib.hid ((FS7.out).keep hbx (Nat.le_refl _))
            clear HB7 NBi7 NBt7 cBi0_7 cBi1_7 cBi2_7 cBt0_7 cBt1_7 FS7 hbx 
            have cBi0_8 : w8.cell? ⟨Bi, 0, none⟩ = some (.slice (some ⟨b, o, none⟩) l.length cap) := by simp [World.cell?, NBi8.out]
            have cBi1_8 : w8.cell? ⟨Bi, 1, none⟩ = some (.int .i64 T) := by simp [World.cell?, NBi8.out]
            have cBi2_8 : w8.cell? ⟨Bi, 2, none⟩ = some (.int .i64 C) := by simp [World.cell?, NBi8.out]
            have cBt0_8 : w8.cell? ⟨Bt, 0, none⟩ = some (.slice At ts.length tcap) := by simp [World.cell?, NBt8.out]
            have cBt1_8 : w8.cell? ⟨Bt, 1, none⟩ = some (.slice Ac cs.length ccap) := by simp [World.cell?, NBt8.out]
            rw [hBp2] at hnx ⊢
            have NBp28 := Lib.hid hnx
            clear hnx hwx hBp2
            have cBp20_8 : w8.cell? ⟨Bp2, 0, none⟩ = some (.slice Ap 0 tp) := by simp [World.cell?, NBp28.out]
            have cBp21_8 : w8.cell? ⟨Bp2, 1, none⟩ = some (.slice Bp 0 cp) := by simp [World.cell?, NBp28.out]
            clear lBi lBt
            go_wp2_with fail
            refine (net_any _ cap T C l _ (HA.out.keep HB8.out (Nat.le_refl _)) (by omega)).mono ?_
            rintro e w9 ⟨Aq3, cq3, rfl, hq, hqn, hb⟩
            have HB9 := Lib.hid ((HB8.out).trans (hb.mono (HB8.out).size))
            have NBi9 := Lib.hid ((hb.block Bi (Array.getElem?_eq_some_iff.1 NBi8.out).1).trans NBi8.out)
            have NBt9 := Lib.hid ((hb.block Bt (Array.getElem?_eq_some_iff.1 NBt8.out).1).trans NBt8.out)
            have NBp29 := Lib.hid ((hb.block Bp2 (Array.getElem?_eq_some_iff.1 NBp28.out).1).trans NBp28.out)
            have FS9 := Lib.hid ((FS8.out).keep hb (Nat.le_refl _))
            have FQ39 := Lib.hid hq
            clear HB8 NBi8 NBt8 NBp28 cBi0_8 cBi1_8 cBi2_8 cBt0_8 cBt1_8 cBp20_8 cBp21_8 FS8 hq hb hqn
            have cBi0_9 : w9.cell? ⟨Bi, 0, none⟩ = some (.slice (some ⟨b, o, none⟩) l.length cap) := by simp [World.cell?, NBi9.out]
            have cBi1_9 : w9.cell? ⟨Bi, 1, none⟩ = some (.int .i64 T) := by simp [World.cell?, NBi9.out]
            have cBi2_9 : w9.cell? ⟨Bi, 2, none⟩ = some (.int .i64 C) := by simp [World.cell?, NBi9.out]
            have cBt0_9 : w9.cell? ⟨Bt, 0, none⟩ = some (.slice At ts.length tcap) := by simp [World.cell?, NBt9.out]
            have cBt1_9 : w9.cell? ⟨Bt, 1, none⟩ = some (.slice Ac cs.length ccap) := by simp [World.cell?, NBt9.out]
            have cBp20_9 : w9.cell? ⟨Bp2, 0, none⟩ = some (.slice Ap 0 tp) := by simp [World.cell?, NBp29.out]
            have cBp21_9 : w9.cell? ⟨Bp2, 1, none⟩ = some (.slice Bp 0 cp) := by simp [World.cell?, NBp29.out]
            have hle := Lib.hid (least_any _ l.length cq3 T C l _ (by omega) rfl FQ39.out)
            rw [HLE.out.1, HLE.out.2] at hle
            clear FQ39
            go_wp2_with fail
            refine (hle.out).mono ?_
            rintro e w10 ⟨rfl, hb⟩
            have HB10 := Lib.hid ((HB9.out).trans (hb.mono (HB9.out).size))
            have NBi10 := Lib.hid ((hb.block Bi (Array.getElem?_eq_some_iff.1 NBi9.out).1).trans NBi9.out)
            have NBt10 := Lib.hid ((hb.block Bt (Array.getElem?_eq_some_iff.1 NBt9.out).1).trans NBt9.out)
            have NBp210 := Lib.hid ((hb.block Bp2 (Array.getElem?_eq_some_iff.1 NBp29.out).1).trans NBp29.out)
            have FS10 := Lib.hid ((FS9.out).keep hb (Nat.le_refl _))
            clear HB9 NBi9 NBt9 NBp29 cBi0_9 cBi1_9 cBi2_9 cBt0_9 cBt1_9 cBp20_9 cBp21_9 FS9 hb hle
            have cBi0_10 : w10.cell? ⟨Bi, 0, none⟩ = some (.slice (some ⟨b, o, none⟩) l.length cap) := by simp [World.cell?, NBi10.out]
            have cBi1_10 : w10.cell? ⟨Bi, 1, none⟩ = some (.int .i64 T) := by simp [World.cell?, NBi10.out]
            have cBi2_10 : w10.cell? ⟨Bi, 2, none⟩ = some (.int .i64 C) := by simp [World.cell?, NBi10.out]
            have cBt0_10 : w10.cell? ⟨Bt, 0, none⟩ = some (.slice At ts.length tcap) := by simp [World.cell?, NBt10.out]
            have cBt1_10 : w10.cell? ⟨Bt, 1, none⟩ = some (.slice Ac cs.length ccap) := by simp [World.cell?, NBt10.out]
            have cBp20_10 : w10.cell? ⟨Bp2, 0, none⟩ = some (.slice Ap 0 tp) := by simp [World.cell?, NBp210.out]
            have cBp21_10 : w10.cell? ⟨Bp2, 1, none⟩ = some (.slice Bp 0 cp) := by simp [World.cell?, NBp210.out]
            have d1 : decide (LN ≤ e) = true := decide_eq_true (by omega)
            go_upto_region 10 with fail
            have S0 := Lib.hid (⟨cBi0_10, cBi1_10, cBi2_10, cBt0_10, cBt1_10⟩ : w10.cell? ⟨Bi, 0, none⟩ = some (.slice (some ⟨b, o, none⟩) l.length cap) ∧ w10.cell? ⟨Bi, 1, none⟩ = some (.int .i64 T) ∧ w10.cell? ⟨Bi, 2, none⟩ = some (.int .i64 C) ∧ w10.cell? ⟨Bt, 0, none⟩ = some (.slice At ts.length tcap) ∧ w10.cell? ⟨Bt, 1, none⟩ = some (.slice Ac cs.length ccap))
            have hrm := fun W hW => refRooms_any b o l.length cap T C e l 0 W rfl HO.out hW e0.1 e0.2 (by decide)
            rw [bitsL_zero] at hrm
            have HRM := Lib.hid hrm
            clear hrm
            go_cut [100] from 82 to 100 (fun s wc => s = .bool false ∧ Below w10.heap.size w10 wc)
            case first =>
              refine wp_region_held_drew (S := fun X => X.cell? ⟨Bi, 0, none⟩ = some (.slice (some ⟨b, o, none⟩) l.length cap) ∧ X.cell? ⟨Bi, 1, none⟩ = some (.int .i64 T) ∧ X.cell? ⟨Bi, 2, none⟩ = some (.int .i64 C) ∧ X.cell? ⟨Bt, 0, none⟩ = some (.slice At ts.length tcap) ∧ X.cell? ⟨Bt, 1, none⟩ = some (.slice Ac cs.length ccap)) (by kernel_rfl) (S0.out) (fun hS0 => ?_)
              refine wpAnyH_take (i := 0) (oi := { dst := some 82, op := Op.move (Operand.tmp 13), type := 39, pos := "outright.go:158", after := #[], guard := none }) (v := ?_) rfl (by kernel_rfl) (by kernel_rfl) (by kernel_rfl) (fun _ _ _ h => h) (Or.inl ⟨by rfl, ?_⟩) hS0 ?_
              rotate_left
              · intro X hX
                obtain ⟨x0, x1, x2, x3, x4⟩ := hX
                go_simp
                try with_reducible rfl
              simp only [Act.put, List.setIfInBounds_toArray, List.set_cons_zero, List.set_cons_succ, Array.toArray_toList]
              refine wpAnyH_take (i := 1) (oi := { dst := some 83, op := Op.binOp BinOp.neq 39 (Operand.tmp 82) (Operand.const (Value.int IntKind.i64 7)) 39, type := 4, pos := "outright.go:158", after := #[{ on := 0, ground := Ground.data }], guard := none }) (v := ?_) rfl (by kernel_rfl) (by kernel_rfl) (by kernel_rfl) (fun _ _ _ h => h) (Or.inl ⟨by rfl, ?_⟩) hS0 ?_
              rotate_left
              · intro X hX
                obtain ⟨x0, x1, x2, x3, x4⟩ := hX
                go_simp
                try with_reducible rfl
              simp only [Act.put, List.setIfInBounds_toArray, List.set_cons_zero, List.set_cons_succ, Array.toArray_toList]
              refine wpAnyH_take (i := 2) (oi := { dst := some 84, op := Op.move (Operand.tmp 83), type := 4, pos := "outright.go:158", after := #[{ on := 1, ground := Ground.data }], guard := none }) (v := ?_) rfl (by kernel_rfl) (by kernel_rfl) (by kernel_rfl) (fun _ _ _ h => h) (Or.inl ⟨by rfl, ?_⟩) hS0 ?_
              rotate_left
              · intro X hX
                obtain ⟨x0, x1, x2, x3, x4⟩ := hX
                go_simp
                try with_reducible rfl
              simp only [Act.put, List.setIfInBounds_toArray, List.set_cons_zero, List.set_cons_succ, Array.toArray_toList]
              refine wpAnyH_take (i := 3) (oi := { dst := some 85, op := Op.load 24 (Operand.tmp 4), type := 24, pos := "outright.go:158", after := #[{ on := 2, ground := Ground.guard }], guard := some (2, false) }) (v := ?_) rfl (by kernel_rfl) (by kernel_rfl) (by kernel_rfl) (fun _ _ _ h => h) (Or.inl ⟨by rfl, ?_⟩) hS0 ?_
              rotate_left
              · intro X hX
                obtain ⟨x0, x1, x2, x3, x4⟩ := hX
                go_simp
                try with_reducible rfl
              simp only [Act.put, List.setIfInBounds_toArray, List.set_cons_zero, List.set_cons_succ, Array.toArray_toList]
              refine wpAnyH_take (i := 4) (oi := { dst := some 86, op := Op.load 24 (Operand.tmp 4), type := 24, pos := "outright.go:158", after := #[{ on := 2, ground := Ground.guard }], guard := some (2, false) }) (v := ?_) rfl (by kernel_rfl) (by kernel_rfl) (by kernel_rfl) (fun _ _ _ h => h) (Or.inl ⟨by rfl, ?_⟩) hS0 ?_
              rotate_left
              · intro X hX
                obtain ⟨x0, x1, x2, x3, x4⟩ := hX
                go_simp
                try with_reducible rfl
              simp only [Act.put, List.setIfInBounds_toArray, List.set_cons_zero, List.set_cons_succ, Array.toArray_toList]
              refine wpAnyH_take (i := 5) (oi := { dst := some 87, op := Op.move (Operand.tmp 9), type := 3, pos := "outright.go:158", after := #[{ on := 2, ground := Ground.guard }], guard := some (2, false) }) (v := ?_) rfl (by kernel_rfl) (by kernel_rfl) (by kernel_rfl) (fun _ _ _ h => h) (Or.inl ⟨by rfl, ?_⟩) hS0 ?_
              rotate_left
              · intro X hX
                obtain ⟨x0, x1, x2, x3, x4⟩ := hX
                go_simp
                try with_reducible rfl
              simp only [Act.put, List.setIfInBounds_toArray, List.set_cons_zero, List.set_cons_succ, Array.toArray_toList]
              refine wpAnyH_take (i := 7) (oi := { dst := some 89, op := Op.move (Operand.tmp 10), type := 25, pos := "outright.go:158", after := #[{ on := 2, ground := Ground.guard }], guard := some (2, false) }) (v := ?_) rfl (by kernel_rfl) (by kernel_rfl) (by kernel_rfl) (fun _ _ _ h => h) (Or.inl ⟨by rfl, ?_⟩) hS0 ?_
              rotate_left
              · intro X hX
                obtain ⟨x0, x1, x2, x3, x4⟩ := hX
                go_simp
                try with_reducible rfl
              simp only [Act.put, List.setIfInBounds_toArray, List.set_cons_zero, List.set_cons_succ, Array.toArray_toList]
              refine wpAnyH_ready (rs := [6]) (by kernel_rfl) (by simp) (AllReadyH.cons (o := { dst := some 88, op := Op.call { callee := Callee.value (Operand.func 30), args := #[Operand.tmp 86, Operand.tmp 87, Operand.const (Value.int IntKind.i64 0)], argTypes := #[24, 3, 3] }, type := 44, pos := "outright.go:158", after := #[{ on := 4, ground := Ground.data }, { on := 5, ground := Ground.data }, { on := 2, ground := Ground.chain }, { on := 2, ground := Ground.guard }], guard := some (2, false) }) rfl (fun K hK => ?_) AllReadyH.nil)
              go_simp
              refine (HRM.out _ (HA.out.keep HB10.out.drew (Nat.le_refl _))).mono ?_
              rintro e' y1 ⟨rv, rfl, hrv, hb⟩
              have hY1 := (Below.refl _ w10).drew.trans hb
              have HRV := Lib.hid hrv
              clear hrv hb
              go_wp2_with fail
              refine hK.out _ _ (keepS5 hY1 S0.out) (fun hS1 => ?_)
              clear hS0 hK K
              refine wpAnyH_ready (rs := [8]) (by kernel_rfl) (by simp) (AllReadyH.cons (o := { dst := some 90, op := Op.call { callee := Callee.value (Operand.func 29), args := #[Operand.tmp 85, Operand.tmp 88, Operand.tmp 89], argTypes := #[24, 44, 25] }, type := 4, pos := "outright.go:158", after := #[{ on := 3, ground := Ground.data }, { on := 6, ground := Ground.data }, { on := 7, ground := Ground.data }, { on := 6, ground := Ground.chain }, { on := 2, ground := Ground.guard }], guard := some (2, false) }) rfl (fun K hK => ?_) AllReadyH.nil)
              go_simp
              have hit := refIsTruth_any b o l.length cap T C e l rv _ sx y1 rfl HO.out (HA.out.keep (HB10.out.trans (hY1.mono HB10.out.size)) (Nat.le_refl _)) e0.1 HRV.out (FS10.out.keep hY1 (Nat.le_refl _))
              rw [HIT.out] at hit
              refine hit.mono ?_
              rintro e' y2 ⟨rfl, hb⟩
              have hY2 := hY1.trans (hb.mono hY1.size)
              clear hit hb HRV
              go_wp2_with fail
              refine hK.out _ _ (keepS5 hY2 S0.out) (fun hS2 => ?_)
              clear hS1 hK K
              refine wpAnyH_take (i := 9) (oi := { dst := some 91, op := Op.unOp UnOp.not 4 (Operand.tmp 90), type := 4, pos := "outright.go:158", after := #[{ on := 8, ground := Ground.data }, { on := 2, ground := Ground.guard }], guard := some (2, false) }) (v := ?_) rfl (by kernel_rfl) (by kernel_rfl) (by kernel_rfl) (fun _ _ _ h => h) (Or.inl ⟨by rfl, ?_⟩) hS2 ?_
              rotate_left
              · intro X hX
                obtain ⟨x0, x1, x2, x3, x4⟩ := hX
                go_simp
                try with_reducible rfl
              simp only [Act.put, List.setIfInBounds_toArray, List.set_cons_zero, List.set_cons_succ, Array.toArray_toList]
              refine wpAnyH_take (i := 10) (oi := { dst := some 92, op := Op.pick (Operand.tmp 84) (Operand.const (Value.bool true)) (Operand.tmp 91), type := 4, pos := "outright.go:158", after := #[{ on := 2, ground := Ground.data }, { on := 9, ground := Ground.data }], guard := none }) (v := ?_) rfl (by kernel_rfl) (by kernel_rfl) (by kernel_rfl) (fun _ _ _ h => h) (Or.inl ⟨by rfl, ?_⟩) hS2 ?_
              rotate_left
              · intro X hX
                obtain ⟨x0, x1, x2, x3, x4⟩ := hX
                go_simp
                try with_reducible rfl
              simp only [Act.put, List.setIfInBounds_toArray, List.set_cons_zero, List.set_cons_succ, Array.toArray_toList]
              refine wpAnyH_take (i := 11) (oi := { dst := some 93, op := Op.move (Operand.tmp 92), type := 4, pos := "outright.go:158", after := #[{ on := 10, ground := Ground.data }, { on := 8, ground := Ground.chain }], guard := none }) (v := ?_) rfl (by kernel_rfl) (by kernel_rfl) (by kernel_rfl) (fun _ _ _ h => h) (Or.inl ⟨by rfl, ?_⟩) hS2 ?_
              rotate_left
              · intro X hX
                obtain ⟨x0, x1, x2, x3, x4⟩ := hX
                go_simp
                try with_reducible rfl
              simp only [Act.put, List.setIfInBounds_toArray, List.set_cons_zero, List.set_cons_succ, Array.toArray_toList]
              refine wpAnyH_take (i := 12) (oi := { dst := some 94, op := Op.load 24 (Operand.tmp 4), type := 24, pos := "outright.go:158", after := #[{ on := 11, ground := Ground.guard }], guard := some (11, false) }) (v := ?_) rfl (by kernel_rfl) (by kernel_rfl) (by kernel_rfl) (fun _ _ _ h => h) (Or.inl ⟨by rfl, ?_⟩) hS2 ?_
              rotate_left
              · intro X hX
                obtain ⟨x0, x1, x2, x3, x4⟩ := hX
                go_simp
                try with_reducible rfl
              simp only [Act.put, List.setIfInBounds_toArray, List.set_cons_zero, List.set_cons_succ, Array.toArray_toList]
              refine wpAnyH_take (i := 14) (oi := { dst := some 96, op := Op.move (Operand.tmp 9), type := 3, pos := "outright.go:158", after := #[{ on := 11, ground := Ground.guard }], guard := some (11, false) }) (v := ?_) rfl (by kernel_rfl) (by kernel_rfl) (by kernel_rfl) (fun _ _ _ h => h) (Or.inl ⟨by rfl, ?_⟩) hS2 ?_
              rotate_left
              · intro X hX
                obtain ⟨x0, x1, x2, x3, x4⟩ := hX
                go_simp
                try with_reducible rfl
              simp only [Act.put, List.setIfInBounds_toArray, List.set_cons_zero, List.set_cons_succ, Array.toArray_toList]
              refine wpAnyH_take (i := 15) (oi := { dst := some 97, op := Op.load 27 (Operand.tmp 7), type := 27, pos := "outright.go:158", after := #[{ on := 11, ground := Ground.guard }], guard := some (11, false) }) (v := ?_) rfl (by kernel_rfl) (by kernel_rfl) (by kernel_rfl) (fun _ _ _ h => h) (Or.inl ⟨by rfl, ?_⟩) hS2 ?_
              rotate_left
              · intro X hX
                obtain ⟨x0, x1, x2, x3, x4⟩ := hX
                go_simp
                try with_reducible rfl
              simp only [Act.put, List.setIfInBounds_toArray, List.set_cons_zero, List.set_cons_succ, Array.toArray_toList]
              refine wpAnyH_ready (rs := [13]) (by kernel_rfl) (by simp) (AllReadyH.cons (o := { dst := some 95, op := Op.call { callee := Callee.value (Operand.func 22), args := #[Operand.tmp 94], argTypes := #[24] }, type := 33, pos := "outright.go:158", after := #[{ on := 12, ground := Ground.data }, { on := 11, ground := Ground.chain }, { on := 11, ground := Ground.guard }], guard := some (11, false) }) rfl (fun K hK => ?_) AllReadyH.nil)
              go_simp
              refine (net_any _ cap T C l _ (HA.out.keep (HB10.out.trans (hY2.mono HB10.out.size)) (Nat.le_refl _)) (by omega)).mono ?_
              rintro e' y3 ⟨Aqz, cqz, rfl, hq, hqn, hb⟩
              have hY3 := hY2.trans (hb.mono hY2.size)
              have HQZ := Lib.hid hq
              clear hq hqn hb
              go_wp2_with fail
              refine hK.out _ _ (keepS5 hY3 S0.out) (fun hS3 => ?_)
              clear hS2 hK K
              refine wpAnyH_ready (rs := [16]) (by kernel_rfl) (by simp) (AllReadyH.cons (o := { dst := some 98, op := Op.call { callee := Callee.value (Operand.func 25), args := #[Operand.tmp 97], argTypes := #[27] }, type := 37, pos := "outright.go:158", after := #[{ on := 15, ground := Ground.data }, { on := 13, ground := Ground.chain }, { on := 11, ground := Ground.guard }], guard := some (11, false) }) rfl (fun K hK => ?_) AllReadyH.nil)
              go_simp
              refine (cut_any At Ac tcap ccap ts cs _ hNt hNc (HT.out.keep (HB10.out.trans (hY3.mono HB10.out.size)) (Nat.le_refl _)) (HC.out.keep (HB10.out.trans (hY3.mono HB10.out.size)) (Nat.le_refl _)) (by omega) (by omega)).mono ?_
              rintro e' y4 ⟨u1, u2, rfl, hu1, hu2, hb⟩
              have hY4 := hY3.trans (hb.mono hY3.size)
              have HU1 := Lib.hid hu1
              have HU2 := Lib.hid hu2
              have HZ := hb
              clear hu1 hu2 hb
              go_wp2_with fail
              refine hK.out _ _ (keepS5 hY4 S0.out) (fun hS4 => ?_)
              clear hS3 hK K
              refine wpAnyH_ready (rs := [17]) (by kernel_rfl) (by simp) (AllReadyH.cons (o := { dst := some 99, op := Op.call { callee := Callee.value (Operand.func 24), args := #[Operand.tmp 95, Operand.tmp 96, Operand.tmp 98], argTypes := #[33, 3, 37] }, type := 4, pos := "outright.go:158", after := #[{ on := 13, ground := Ground.data }, { on := 14, ground := Ground.data }, { on := 16, ground := Ground.data }, { on := 16, ground := Ground.chain }, { on := 11, ground := Ground.guard }], guard := some (11, false) }) rfl (fun K hK => ?_) AllReadyH.nil)
              go_simp
              have hpc := proveCut_any _ l.length cqz T C e l u1 u2 ts cs y4 (by omega) rfl (HQZ.out.keep HZ (Nat.le_refl _)) HU1.out HU2.out (by omega) (by omega)
              rw [HCN0.out] at hpc
              refine hpc.mono ?_
              rintro e' y5 ⟨rfl, hb⟩
              have hY5 := hY4.trans (hb.mono hY4.size)
              clear hpc hb HZ
              go_wp2_with fail
              refine hK.out _ _ (keepS5 hY5 S0.out) (fun hS5 => ?_)
              clear hS4 hK K
              refine wpAnyH_take (i := 18) (oi := { dst := some 100, op := Op.pick (Operand.tmp 93) (Operand.const (Value.bool true)) (Operand.tmp 99), type := 4, pos := "outright.go:158", after := #[{ on := 11, ground := Ground.data }, { on := 17, ground := Ground.data }], guard := none }) (v := ?_) rfl (by kernel_rfl) (by kernel_rfl) (by kernel_rfl) (fun _ _ _ h => h) (Or.inl ⟨by rfl, ?_⟩) hS5 ?_
              rotate_left
              · intro X hX
                obtain ⟨x0, x1, x2, x3, x4⟩ := hX
                go_simp
                try with_reducible rfl
              simp only [Act.put, List.setIfInBounds_toArray, List.set_cons_zero, List.set_cons_succ, Array.toArray_toList]
              refine wpAnyH_done (by kernel_rfl) ?_ _
              clear hS5
              go_wp2
              go_meet
              case rel => exact ⟨rfl, hY5⟩
            case rest =>
              obtain ⟨rfl, hbw⟩ := hcut
              obtain ⟨w11, rfl⟩ : ∃ x : World, x = wc := ⟨_, rfl⟩
              have HB11 := Lib.hid ((HB10.out).trans (hbw.mono (HB10.out).size))
              have NBi11 := Lib.hid ((hbw.block Bi (Array.getElem?_eq_some_iff.1 NBi10.out).1).trans NBi10.out)
              have NBt11 := Lib.hid ((hbw.block Bt (Array.getElem?_eq_some_iff.1 NBt10.out).1).trans NBt10.out)
              have NBp211 := Lib.hid ((hbw.block Bp2 (Array.getElem?_eq_some_iff.1 NBp210.out).1).trans NBp210.out)
              have FS11 := Lib.hid ((FS10.out).keep hbw (Nat.le_refl _))
              clear HB10 NBi10 NBt10 NBp210 cBi0_10 cBi1_10 cBi2_10 cBt0_10 cBt1_10 cBp20_10 cBp21_10 FS10 hbw S0 HRM
              have cBi0_11 : w11.cell? ⟨Bi, 0, none⟩ = some (.slice (some ⟨b, o, none⟩) l.length cap) := by simp [World.cell?, NBi11.out]
              have cBi1_11 : w11.cell? ⟨Bi, 1, none⟩ = some (.int .i64 T) := by simp [World.cell?, NBi11.out]
              have cBi2_11 : w11.cell? ⟨Bi, 2, none⟩ = some (.int .i64 C) := by simp [World.cell?, NBi11.out]
              have cBt0_11 : w11.cell? ⟨Bt, 0, none⟩ = some (.slice At ts.length tcap) := by simp [World.cell?, NBt11.out]
              have cBt1_11 : w11.cell? ⟨Bt, 1, none⟩ = some (.slice Ac cs.length ccap) := by simp [World.cell?, NBt11.out]
              have cBp20_11 : w11.cell? ⟨Bp2, 0, none⟩ = some (.slice Ap 0 tp) := by simp [World.cell?, NBp211.out]
              have cBp21_11 : w11.cell? ⟨Bp2, 1, none⟩ = some (.slice Bp 0 cp) := by simp [World.cell?, NBp211.out]
              clear FS11
              obtain ⟨f, hf⟩ : ∃ f, e % 6 = f := ⟨_, rfl⟩
              have f0 : 0 ≤ f ∧ f ≤ 5 := by omega
              have hcl := Lib.hid (closed_any (.slice Aw ws.length capw) ws f _ (HW.out.keep HB11.out (Nat.le_refl _)) hWl f0)
              go_wp2_with fail
              refine hcl.out.mono ?_
              rintro e' w12 ⟨hb, Ax, capx, Tx, Cx, vx, lx, xs, rfl, hAx, hIx, ⟨gx, rfl⟩, hlen, hcl2⟩
              obtain ⟨Av, cv, rfl, _⟩ := id hIx
              have HLEN := Lib.hid hlen
              clear hlen hcl
              have HB12 := Lib.hid ((HB11.out).trans (hb.mono (HB11.out).size))
              have NBi12 := Lib.hid ((hb.block Bi (Array.getElem?_eq_some_iff.1 NBi11.out).1).trans NBi11.out)
              have NBt12 := Lib.hid ((hb.block Bt (Array.getElem?_eq_some_iff.1 NBt11.out).1).trans NBt11.out)
              have NBp212 := Lib.hid ((hb.block Bp2 (Array.getElem?_eq_some_iff.1 NBp211.out).1).trans NBp211.out)
              have FX12 := Lib.hid hAx
              have FV12 := Lib.hid hIx
              clear HB11 NBi11 NBt11 NBp211 cBi0_11 cBi1_11 cBi2_11 cBt0_11 cBt1_11 cBp20_11 cBp21_11 hAx hIx hb 
              have cBi0_12 : w12.cell? ⟨Bi, 0, none⟩ = some (.slice (some ⟨b, o, none⟩) l.length cap) := by simp [World.cell?, NBi12.out]
              have cBi1_12 : w12.cell? ⟨Bi, 1, none⟩ = some (.int .i64 T) := by simp [World.cell?, NBi12.out]
              have cBi2_12 : w12.cell? ⟨Bi, 2, none⟩ = some (.int .i64 C) := by simp [World.cell?, NBi12.out]
              have cBt0_12 : w12.cell? ⟨Bt, 0, none⟩ = some (.slice At ts.length tcap) := by simp [World.cell?, NBt12.out]
              have cBt1_12 : w12.cell? ⟨Bt, 1, none⟩ = some (.slice Ac cs.length ccap) := by simp [World.cell?, NBt12.out]
              have cBp20_12 : w12.cell? ⟨Bp2, 0, none⟩ = some (.slice Ap 0 tp) := by simp [World.cell?, NBp212.out]
              have cBp21_12 : w12.cell? ⟨Bp2, 1, none⟩ = some (.slice Bp 0 cp) := by simp [World.cell?, NBp212.out]
              rcases hcl2 with ⟨h13, hf3⟩ | ⟨hokx, htb⟩
              · have HF := Lib.hid hf3
                have hl13 : lx.length ≤ 1000000 := by omega
                clear hf3 h13
                go_wp2_with fail
                have hbx : Below w12.heap.size w12 (w12.alloc (.cells #[.slice (some ⟨gx, 0, none⟩) lx.length capx, .int .i64 Tx, .int .i64 Cx] 24)) := (Below.refl _ _).alloc (Nat.le_refl _) _
                have hnx := Go.heap_alloc_new w12 (.cells #[.slice (some ⟨gx, 0, none⟩) lx.length capx, .int .i64 Tx, .int .i64 Cx] 24)
                obtain ⟨Bx, hBx⟩ : ∃ x, w12.heap.size = x := ⟨_, rfl⟩
                have oBx : w.heap.size ≤ Bx := by have := HB12.out.size; omega
                have oBiBx : Bi < Bx := by have := (Array.getElem?_eq_some_iff.1 NBi12.out).1; omega
                have oBtBx : Bt < Bx := by have := (Array.getElem?_eq_some_iff.1 NBt12.out).1; omega
                have oBp2Bx : Bp2 < Bx := by have := (Array.getElem?_eq_some_iff.1 NBp212.out).1; omega
                generalize hwx : w12.alloc (.cells #[.slice (some ⟨gx, 0, none⟩) lx.length capx, .int .i64 Tx, .int .i64 Cx] 24) = w13 at hbx hnx ⊢
                have HB13 := Lib.hid ((HB12.out).trans (hbx.mono (HB12.out).size))
                have NBi13 := Lib.hid ((hbx.block Bi (Array.getElem?_eq_some_iff.1 NBi12.out).1).trans NBi12.out)
                have NBt13 := Lib.hid ((hbx.block Bt (Array.getElem?_eq_some_iff.1 NBt12.out).1).trans NBt12.out)
                have NBp213 := Lib.hid ((hbx.block Bp2 (Array.getElem?_eq_some_iff.1 NBp212.out).1).trans NBp212.out)
                have FX13 := Lib.hid ((FX12.out).keep hbx (Nat.le_refl _))
                have FV13 := Lib.hid ((FV12.out).keep hbx (Nat.le_refl _))
                clear HB12 NBi12 NBt12 NBp212 cBi0_12 cBi1_12 cBi2_12 cBt0_12 cBt1_12 cBp20_12 cBp21_12 FX12 FV12 hbx 
                have cBi0_13 : w13.cell? ⟨Bi, 0, none⟩ = some (.slice (some ⟨b, o, none⟩) l.length cap) := by simp [World.cell?, NBi13.out]
                have cBi1_13 : w13.cell? ⟨Bi, 1, none⟩ = some (.int .i64 T) := by simp [World.cell?, NBi13.out]
                have cBi2_13 : w13.cell? ⟨Bi, 2, none⟩ = some (.int .i64 C) := by simp [World.cell?, NBi13.out]
                have cBt0_13 : w13.cell? ⟨Bt, 0, none⟩ = some (.slice At ts.length tcap) := by simp [World.cell?, NBt13.out]
                have cBt1_13 : w13.cell? ⟨Bt, 1, none⟩ = some (.slice Ac cs.length ccap) := by simp [World.cell?, NBt13.out]
                have cBp20_13 : w13.cell? ⟨Bp2, 0, none⟩ = some (.slice Ap 0 tp) := by simp [World.cell?, NBp213.out]
                have cBp21_13 : w13.cell? ⟨Bp2, 1, none⟩ = some (.slice Bp 0 cp) := by simp [World.cell?, NBp213.out]
                rw [hBx] at hnx ⊢
                have NBx13 := Lib.hid hnx
                clear hnx hwx hBx
                have cBx0_13 : w13.cell? ⟨Bx, 0, none⟩ = some (.slice (some ⟨gx, 0, none⟩) lx.length capx) := by simp [World.cell?, NBx13.out]
                have cBx1_13 : w13.cell? ⟨Bx, 1, none⟩ = some (.int .i64 Tx) := by simp [World.cell?, NBx13.out]
                have cBx2_13 : w13.cell? ⟨Bx, 2, none⟩ = some (.int .i64 Cx) := by simp [World.cell?, NBx13.out]
                have hfa := Lib.hid (lawFault_any (some ⟨gx, 0, none⟩) lx.length capx Tx Cx lx w13 hl13 rfl FX13.out)
                rw [HF.out] at hfa
                go_wp2_with fail
                refine (hfa.out).mono ?_
                rintro e w14 ⟨rfl, hb⟩
                have HB14 := Lib.hid ((HB13.out).trans (hb.mono (HB13.out).size))
                have NBi14 := Lib.hid ((hb.block Bi (Array.getElem?_eq_some_iff.1 NBi13.out).1).trans NBi13.out)
                have NBt14 := Lib.hid ((hb.block Bt (Array.getElem?_eq_some_iff.1 NBt13.out).1).trans NBt13.out)
                have NBp214 := Lib.hid ((hb.block Bp2 (Array.getElem?_eq_some_iff.1 NBp213.out).1).trans NBp213.out)
                have NBx14 := Lib.hid ((hb.block Bx (Array.getElem?_eq_some_iff.1 NBx13.out).1).trans NBx13.out)
                have FX14 := Lib.hid ((FX13.out).keep hb (Nat.le_refl _))
                have FV14 := Lib.hid ((FV13.out).keep hb (Nat.le_refl _))
                clear HB13 NBi13 NBt13 NBp213 NBx13 cBi0_13 cBi1_13 cBi2_13 cBt0_13 cBt1_13 cBp20_13 cBp21_13 cBx0_13 cBx1_13 cBx2_13 FX13 FV13 hb hfa
                have cBi0_14 : w14.cell? ⟨Bi, 0, none⟩ = some (.slice (some ⟨b, o, none⟩) l.length cap) := by simp [World.cell?, NBi14.out]
                have cBi1_14 : w14.cell? ⟨Bi, 1, none⟩ = some (.int .i64 T) := by simp [World.cell?, NBi14.out]
                have cBi2_14 : w14.cell? ⟨Bi, 2, none⟩ = some (.int .i64 C) := by simp [World.cell?, NBi14.out]
                have cBt0_14 : w14.cell? ⟨Bt, 0, none⟩ = some (.slice At ts.length tcap) := by simp [World.cell?, NBt14.out]
                have cBt1_14 : w14.cell? ⟨Bt, 1, none⟩ = some (.slice Ac cs.length ccap) := by simp [World.cell?, NBt14.out]
                have cBp20_14 : w14.cell? ⟨Bp2, 0, none⟩ = some (.slice Ap 0 tp) := by simp [World.cell?, NBp214.out]
                have cBp21_14 : w14.cell? ⟨Bp2, 1, none⟩ = some (.slice Bp 0 cp) := by simp [World.cell?, NBp214.out]
                have cBx0_14 : w14.cell? ⟨Bx, 0, none⟩ = some (.slice (some ⟨gx, 0, none⟩) lx.length capx) := by simp [World.cell?, NBx14.out]
                have cBx1_14 : w14.cell? ⟨Bx, 1, none⟩ = some (.int .i64 Tx) := by simp [World.cell?, NBx14.out]
                have cBx2_14 : w14.cell? ⟨Bx, 2, none⟩ = some (.int .i64 Cx) := by simp [World.cell?, NBx14.out]
                go_wp2_with fail
                refine (awake_any _).mono ?_
                rintro e w15 ⟨rfl, hb⟩
                have HB15 := Lib.hid ((HB14.out).trans (hb.mono (HB14.out).size))
                have NBi15 := Lib.hid ((hb.block Bi (Array.getElem?_eq_some_iff.1 NBi14.out).1).trans NBi14.out)
                have NBt15 := Lib.hid ((hb.block Bt (Array.getElem?_eq_some_iff.1 NBt14.out).1).trans NBt14.out)
                have NBp215 := Lib.hid ((hb.block Bp2 (Array.getElem?_eq_some_iff.1 NBp214.out).1).trans NBp214.out)
                have NBx15 := Lib.hid ((hb.block Bx (Array.getElem?_eq_some_iff.1 NBx14.out).1).trans NBx14.out)
                have FX15 := Lib.hid ((FX14.out).keep hb (Nat.le_refl _))
                have FV15 := Lib.hid ((FV14.out).keep hb (Nat.le_refl _))
                clear HB14 NBi14 NBt14 NBp214 NBx14 cBi0_14 cBi1_14 cBi2_14 cBt0_14 cBt1_14 cBp20_14 cBp21_14 cBx0_14 cBx1_14 cBx2_14 FX14 FV14 hb 
                have cBi0_15 : w15.cell? ⟨Bi, 0, none⟩ = some (.slice (some ⟨b, o, none⟩) l.length cap) := by simp [World.cell?, NBi15.out]
                have cBi1_15 : w15.cell? ⟨Bi, 1, none⟩ = some (.int .i64 T) := by simp [World.cell?, NBi15.out]
                have cBi2_15 : w15.cell? ⟨Bi, 2, none⟩ = some (.int .i64 C) := by simp [World.cell?, NBi15.out]
                have cBt0_15 : w15.cell? ⟨Bt, 0, none⟩ = some (.slice At ts.length tcap) := by simp [World.cell?, NBt15.out]
                have cBt1_15 : w15.cell? ⟨Bt, 1, none⟩ = some (.slice Ac cs.length ccap) := by simp [World.cell?, NBt15.out]
                have cBp20_15 : w15.cell? ⟨Bp2, 0, none⟩ = some (.slice Ap 0 tp) := by simp [World.cell?, NBp215.out]
                have cBp21_15 : w15.cell? ⟨Bp2, 1, none⟩ = some (.slice Bp 0 cp) := by simp [World.cell?, NBp215.out]
                have cBx0_15 : w15.cell? ⟨Bx, 0, none⟩ = some (.slice (some ⟨gx, 0, none⟩) lx.length capx) := by simp [World.cell?, NBx15.out]
                have cBx1_15 : w15.cell? ⟨Bx, 1, none⟩ = some (.int .i64 Tx) := by simp [World.cell?, NBx15.out]
                have cBx2_15 : w15.cell? ⟨Bx, 2, none⟩ = some (.int .i64 Cx) := by simp [World.cell?, NBx15.out]
                go_wp2_with fail
                go_ret
                exact ⟨rfl, HB15.out⟩
              · have HOX := Lib.hid hokx
                have HTB := Lib.hid htb
                have hnx12 := hokx.len
                have hposx := hokx.pos
                have hftx := Lib.hid (faultL_zero.2 hokx)
                have hxl : xs.length ≤ 1000000 := by have := HLEN.out; omega
                have HCN := Lib.hid (cutB_no (ts := ts) (cs := cs) (truthB_can htb))
                clear hokx htb
                go_wp2_with fail
                have hbx : Below w12.heap.size w12 (w12.alloc (.cells #[.slice (some ⟨gx, 0, none⟩) lx.length capx, .int .i64 Tx, .int .i64 Cx] 24)) := (Below.refl _ _).alloc (Nat.le_refl _) _
                have hnx := Go.heap_alloc_new w12 (.cells #[.slice (some ⟨gx, 0, none⟩) lx.length capx, .int .i64 Tx, .int .i64 Cx] 24)
                obtain ⟨Bx, hBx⟩ : ∃ x, w12.heap.size = x := ⟨_, rfl⟩
                have oBx : w.heap.size ≤ Bx := by have := HB12.out.size; omega
                have oBiBx : Bi < Bx := by have := (Array.getElem?_eq_some_iff.1 NBi12.out).1; omega
                have oBtBx : Bt < Bx := by have := (Array.getElem?_eq_some_iff.1 NBt12.out).1; omega
                have oBp2Bx : Bp2 < Bx := by have := (Array.getElem?_eq_some_iff.1 NBp212.out).1; omega
                generalize hwx : w12.alloc (.cells #[.slice (some ⟨gx, 0, none⟩) lx.length capx, .int .i64 Tx, .int .i64 Cx] 24) = w13 at hbx hnx ⊢
                have HB13 := Lib.hid ((HB12.out).trans (hbx.mono (HB12.out).size))
                have NBi13 := Lib.hid ((hbx.block Bi (Array.getElem?_eq_some_iff.1 NBi12.out).1).trans NBi12.out)
                have NBt13 := Lib.hid ((hbx.block Bt (Array.getElem?_eq_some_iff.1 NBt12.out).1).trans NBt12.out)
                have NBp213 := Lib.hid ((hbx.block Bp2 (Array.getElem?_eq_some_iff.1 NBp212.out).1).trans NBp212.out)
                have FX13 := Lib.hid ((FX12.out).keep hbx (Nat.le_refl _))
                have FV13 := Lib.hid ((FV12.out).keep hbx (Nat.le_refl _))
                clear HB12 NBi12 NBt12 NBp212 cBi0_12 cBi1_12 cBi2_12 cBt0_12 cBt1_12 cBp20_12 cBp21_12 FX12 FV12 hbx 
                have cBi0_13 : w13.cell? ⟨Bi, 0, none⟩ = some (.slice (some ⟨b, o, none⟩) l.length cap) := by simp [World.cell?, NBi13.out]
                have cBi1_13 : w13.cell? ⟨Bi, 1, none⟩ = some (.int .i64 T) := by simp [World.cell?, NBi13.out]
                have cBi2_13 : w13.cell? ⟨Bi, 2, none⟩ = some (.int .i64 C) := by simp [World.cell?, NBi13.out]
                have cBt0_13 : w13.cell? ⟨Bt, 0, none⟩ = some (.slice At ts.length tcap) := by simp [World.cell?, NBt13.out]
                have cBt1_13 : w13.cell? ⟨Bt, 1, none⟩ = some (.slice Ac cs.length ccap) := by simp [World.cell?, NBt13.out]
                have cBp20_13 : w13.cell? ⟨Bp2, 0, none⟩ = some (.slice Ap 0 tp) := by simp [World.cell?, NBp213.out]
                have cBp21_13 : w13.cell? ⟨Bp2, 1, none⟩ = some (.slice Bp 0 cp) := by simp [World.cell?, NBp213.out]
                rw [hBx] at hnx ⊢
                have NBx13 := Lib.hid hnx
                clear hnx hwx hBx
                have cBx0_13 : w13.cell? ⟨Bx, 0, none⟩ = some (.slice (some ⟨gx, 0, none⟩) lx.length capx) := by simp [World.cell?, NBx13.out]
                have cBx1_13 : w13.cell? ⟨Bx, 1, none⟩ = some (.int .i64 Tx) := by simp [World.cell?, NBx13.out]
                have cBx2_13 : w13.cell? ⟨Bx, 2, none⟩ = some (.int .i64 Cx) := by simp [World.cell?, NBx13.out]
                have hfa := Lib.hid (lawFault_any (some ⟨gx, 0, none⟩) lx.length capx Tx Cx lx w13 (by omega) rfl FX13.out)
                rw [hftx.out] at hfa
                go_wp2_with fail
                refine (hfa.out).mono ?_
                rintro e w14 ⟨rfl, hb⟩
                have HB14 := Lib.hid ((HB13.out).trans (hb.mono (HB13.out).size))
                have NBi14 := Lib.hid ((hb.block Bi (Array.getElem?_eq_some_iff.1 NBi13.out).1).trans NBi13.out)
                have NBt14 := Lib.hid ((hb.block Bt (Array.getElem?_eq_some_iff.1 NBt13.out).1).trans NBt13.out)
                have NBp214 := Lib.hid ((hb.block Bp2 (Array.getElem?_eq_some_iff.1 NBp213.out).1).trans NBp213.out)
                have NBx14 := Lib.hid ((hb.block Bx (Array.getElem?_eq_some_iff.1 NBx13.out).1).trans NBx13.out)
                have FX14 := Lib.hid ((FX13.out).keep hb (Nat.le_refl _))
                have FV14 := Lib.hid ((FV13.out).keep hb (Nat.le_refl _))
                clear HB13 NBi13 NBt13 NBp213 NBx13 cBi0_13 cBi1_13 cBi2_13 cBt0_13 cBt1_13 cBp20_13 cBp21_13 cBx0_13 cBx1_13 cBx2_13 FX13 FV13 hb hfa
                have cBi0_14 : w14.cell? ⟨Bi, 0, none⟩ = some (.slice (some ⟨b, o, none⟩) l.length cap) := by simp [World.cell?, NBi14.out]
                have cBi1_14 : w14.cell? ⟨Bi, 1, none⟩ = some (.int .i64 T) := by simp [World.cell?, NBi14.out]
                have cBi2_14 : w14.cell? ⟨Bi, 2, none⟩ = some (.int .i64 C) := by simp [World.cell?, NBi14.out]
                have cBt0_14 : w14.cell? ⟨Bt, 0, none⟩ = some (.slice At ts.length tcap) := by simp [World.cell?, NBt14.out]
                have cBt1_14 : w14.cell? ⟨Bt, 1, none⟩ = some (.slice Ac cs.length ccap) := by simp [World.cell?, NBt14.out]
                have cBp20_14 : w14.cell? ⟨Bp2, 0, none⟩ = some (.slice Ap 0 tp) := by simp [World.cell?, NBp214.out]
                have cBp21_14 : w14.cell? ⟨Bp2, 1, none⟩ = some (.slice Bp 0 cp) := by simp [World.cell?, NBp214.out]
                have cBx0_14 : w14.cell? ⟨Bx, 0, none⟩ = some (.slice (some ⟨gx, 0, none⟩) lx.length capx) := by simp [World.cell?, NBx14.out]
                have cBx1_14 : w14.cell? ⟨Bx, 1, none⟩ = some (.int .i64 Tx) := by simp [World.cell?, NBx14.out]
                have cBx2_14 : w14.cell? ⟨Bx, 2, none⟩ = some (.int .i64 Cx) := by simp [World.cell?, NBx14.out]
                have hnil : Av = none → cv = 0 := fun h => by
                  obtain ⟨A2, c2, he2, hc2⟩ := FV14.out
                  cases he2
                  rcases hc2 with hc2 | ⟨b2, o2, h2, _⟩
                  · have := HLEN.out; rw [hc2] at this; simp at this; rw [this] at hposx; simp at hposx
                  · rw [h] at h2; cases h2
                have S0 := Lib.hid (⟨cBx0_14, cBx1_14, cBx2_14, cBt0_14, cBt1_14⟩ : w14.cell? ⟨Bx, 0, none⟩ = some (.slice (some ⟨gx, 0, none⟩) lx.length capx) ∧ w14.cell? ⟨Bx, 1, none⟩ = some (.int .i64 Tx) ∧ w14.cell? ⟨Bx, 2, none⟩ = some (.int .i64 Cx) ∧ w14.cell? ⟨Bt, 0, none⟩ = some (.slice At ts.length tcap) ∧ w14.cell? ⟨Bt, 1, none⟩ = some (.slice Ac cs.length ccap))
                have hwr : IntKind.i64.wrap f = f := IntWalk.i64_in _ (by omega)
                have hft6 : e.tmod 6 = f := by rw [← hf]; exact Int.tmod_eq_emod_of_nonneg (by omega)
                go_wp2_with fail
                refine wp_region_held_drew (S := fun X => X.cell? ⟨Bx, 0, none⟩ = some (.slice (some ⟨gx, 0, none⟩) lx.length capx) ∧ X.cell? ⟨Bx, 1, none⟩ = some (.int .i64 Tx) ∧ X.cell? ⟨Bx, 2, none⟩ = some (.int .i64 Cx) ∧ X.cell? ⟨Bt, 0, none⟩ = some (.slice At ts.length tcap) ∧ X.cell? ⟨Bt, 1, none⟩ = some (.slice Ac cs.length ccap)) (by kernel_rfl) (S0.out) (fun hS0 => ?_)
                refine wpAnyH_take (i := 0) (oi := { dst := some 126, op := Op.load 24 (Operand.tmp 16), type := 24, pos := "outright.go:168", after := #[], guard := none }) (v := ?_) rfl (by kernel_rfl) (by kernel_rfl) (by kernel_rfl) (fun _ _ _ h => h) (Or.inl ⟨by rfl, ?_⟩) hS0 ?_
                rotate_left
                · intro X hX
                  obtain ⟨x0, x1, x2, x3, x4⟩ := hX
                  go_simp
                  try with_reducible rfl
                simp only [Act.put, List.setIfInBounds_toArray, List.set_cons_zero, List.set_cons_succ, Array.toArray_toList]
                refine wpAnyH_take (i := 2) (oi := { dst := some 128, op := Op.move (Operand.tmp 9), type := 3, pos := "outright.go:168", after := #[], guard := none }) (v := ?_) rfl (by kernel_rfl) (by kernel_rfl) (by kernel_rfl) (fun _ _ _ h => h) (Or.inl ⟨by rfl, ?_⟩) hS0 ?_
                rotate_left
                · intro X hX
                  obtain ⟨x0, x1, x2, x3, x4⟩ := hX
                  go_simp
                  try with_reducible rfl
                simp only [Act.put, List.setIfInBounds_toArray, List.set_cons_zero, List.set_cons_succ, Array.toArray_toList]
                refine wpAnyH_take (i := 3) (oi := { dst := some 129, op := Op.binOp BinOp.rem 3 (Operand.tmp 128) (Operand.const (Value.int IntKind.i64 6)) 3, type := 3, pos := "outright.go:168", after := #[{ on := 2, ground := Ground.data }], guard := none }) (v := ?_) rfl (by kernel_rfl) (by kernel_rfl) (by kernel_rfl) (fun _ _ _ h => h) (Or.inl ⟨by rfl, ?_⟩) hS0 ?_
                rotate_left
                · intro X hX
                  obtain ⟨x0, x1, x2, x3, x4⟩ := hX
                  go_simp
                  try with_reducible rfl
                simp only [Act.put, List.setIfInBounds_toArray, List.set_cons_zero, List.set_cons_succ, Array.toArray_toList]
                refine wpAnyH_take (i := 4) (oi := { dst := some 130, op := Op.move (Operand.tmp 17), type := 25, pos := "outright.go:168", after := #[], guard := none }) (v := ?_) rfl (by kernel_rfl) (by kernel_rfl) (by kernel_rfl) (fun _ _ _ h => h) (Or.inl ⟨by rfl, ?_⟩) hS0 ?_
                rotate_left
                · intro X hX
                  obtain ⟨x0, x1, x2, x3, x4⟩ := hX
                  go_simp
                  try with_reducible rfl
                simp only [Act.put, List.setIfInBounds_toArray, List.set_cons_zero, List.set_cons_succ, Array.toArray_toList]
                refine wpAnyH_ready (rs := [1]) (by kernel_rfl) (by simp) (AllReadyH.cons (o := { dst := some 127, op := Op.call { callee := Callee.value (Operand.func 22), args := #[Operand.tmp 126], argTypes := #[24] }, type := 33, pos := "outright.go:168", after := #[{ on := 0, ground := Ground.data }], guard := none }) rfl (fun K hK => ?_) AllReadyH.nil)
                go_simp
                refine (net_any _ capx Tx Cx lx _ (FX14.out.keep ((Below.refl _ w14).drew) (Nat.le_refl _)) (by omega)).mono ?_
                rintro e' y1 ⟨Aqa, cqa, rfl, hq, hqn, hb⟩
                have hY1 := (Below.refl _ w14).drew.trans hb
                have HQa := Lib.hid hq
                clear hq hqn
                clear hb
                go_wp2_with fail
                refine hK.out _ _ (keepS5 hY1 S0.out) (fun hS1 => ?_)
                clear hS0 hK K
                refine wpAnyH_ready (rs := [5]) (by kernel_rfl) (by simp) (AllReadyH.cons (o := { dst := some 131, op := Op.call { callee := Callee.value (Operand.func 23), args := #[Operand.tmp 130], argTypes := #[25] }, type := 25, pos := "outright.go:168", after := #[{ on := 4, ground := Ground.data }, { on := 1, ground := Ground.chain }], guard := none }) rfl (fun K hK => ?_) AllReadyH.nil)
                go_simp
                refine (list_any Av cv xs _ hnil (FV14.out.keep hY1 (Nat.le_refl _)) hxl).mono ?_
                rintro e' y2 ⟨vl, rfl, hvl, hb⟩
                have hY2 := hY1.trans (hb.mono hY1.size)
                have HVL := Lib.hid hvl
                clear hvl
                have HZ := hb
                clear hb
                go_wp2_with fail
                refine hK.out _ _ (keepS5 hY2 S0.out) (fun hS2 => ?_)
                clear hS1 hK K
                refine wpAnyH_ready (rs := [6]) (by kernel_rfl) (by simp) (AllReadyH.cons (o := { dst := some 132, op := Op.call { callee := Callee.value (Operand.func 21), args := #[Operand.tmp 127, Operand.tmp 129, Operand.tmp 131], argTypes := #[33, 3, 25] }, type := 4, pos := "outright.go:168", after := #[{ on := 1, ground := Ground.data }, { on := 3, ground := Ground.data }, { on := 5, ground := Ground.data }, { on := 5, ground := Ground.chain }], guard := none }) rfl (fun K hK => ?_) AllReadyH.nil)
                go_simp
                have hpt := proveTruth_any _ lx.length cqa Tx Cx f lx vl xs y2 (by omega) rfl (HQa.out.keep HZ (Nat.le_refl _)) HVL.out
                rw [HTB.out] at hpt
                refine hpt.mono ?_
                rintro e' y3 ⟨rfl, hb⟩
                have hY3 := hY2.trans (hb.mono hY2.size)
                clear hb hpt HZ
                go_wp2_with fail
                refine hK.out _ _ (keepS5 hY3 S0.out) (fun hS3 => ?_)
                clear hS2 hK K
                refine wpAnyH_take (i := 7) (oi := { dst := some 133, op := Op.move (Operand.tmp 132), type := 4, pos := "outright.go:168", after := #[{ on := 6, ground := Ground.data }, { on := 6, ground := Ground.chain }], guard := none }) (v := ?_) rfl (by kernel_rfl) (by kernel_rfl) (by kernel_rfl) (fun _ _ _ h => h) (Or.inl ⟨by rfl, ?_⟩) hS3 ?_
                rotate_left
                · intro X hX
                  obtain ⟨x0, x1, x2, x3, x4⟩ := hX
                  go_simp
                  try with_reducible rfl
                simp only [Act.put, List.setIfInBounds_toArray, List.set_cons_zero, List.set_cons_succ, Array.toArray_toList]
                refine wpAnyH_take (i := 8) (oi := { dst := some 134, op := Op.load 24 (Operand.tmp 16), type := 24, pos := "outright.go:168", after := #[{ on := 7, ground := Ground.guard }], guard := some (7, true) }) (v := ?_) rfl (by kernel_rfl) (by kernel_rfl) (by kernel_rfl) (fun _ _ _ h => h) (Or.inl ⟨by rfl, ?_⟩) hS3 ?_
                rotate_left
                · intro X hX
                  obtain ⟨x0, x1, x2, x3, x4⟩ := hX
                  go_simp
                  try with_reducible rfl
                simp only [Act.put, List.setIfInBounds_toArray, List.set_cons_zero, List.set_cons_succ, Array.toArray_toList]
                refine wpAnyH_take (i := 10) (oi := { dst := some 136, op := Op.move (Operand.tmp 9), type := 3, pos := "outright.go:168", after := #[{ on := 7, ground := Ground.guard }], guard := some (7, true) }) (v := ?_) rfl (by kernel_rfl) (by kernel_rfl) (by kernel_rfl) (fun _ _ _ h => h) (Or.inl ⟨by rfl, ?_⟩) hS3 ?_
                rotate_left
                · intro X hX
                  obtain ⟨x0, x1, x2, x3, x4⟩ := hX
                  go_simp
                  try with_reducible rfl
                simp only [Act.put, List.setIfInBounds_toArray, List.set_cons_zero, List.set_cons_succ, Array.toArray_toList]
                refine wpAnyH_take (i := 11) (oi := { dst := some 137, op := Op.binOp BinOp.rem 3 (Operand.tmp 136) (Operand.const (Value.int IntKind.i64 6)) 3, type := 3, pos := "outright.go:168", after := #[{ on := 10, ground := Ground.data }, { on := 7, ground := Ground.guard }], guard := some (7, true) }) (v := ?_) rfl (by kernel_rfl) (by kernel_rfl) (by kernel_rfl) (fun _ _ _ h => h) (Or.inl ⟨by rfl, ?_⟩) hS3 ?_
                rotate_left
                · intro X hX
                  obtain ⟨x0, x1, x2, x3, x4⟩ := hX
                  go_simp
                  try with_reducible rfl
                simp only [Act.put, List.setIfInBounds_toArray, List.set_cons_zero, List.set_cons_succ, Array.toArray_toList]
                refine wpAnyH_take (i := 12) (oi := { dst := some 138, op := Op.load 27 (Operand.tmp 7), type := 27, pos := "outright.go:168", after := #[{ on := 7, ground := Ground.guard }], guard := some (7, true) }) (v := ?_) rfl (by kernel_rfl) (by kernel_rfl) (by kernel_rfl) (fun _ _ _ h => h) (Or.inl ⟨by rfl, ?_⟩) hS3 ?_
                rotate_left
                · intro X hX
                  obtain ⟨x0, x1, x2, x3, x4⟩ := hX
                  go_simp
                  try with_reducible rfl
                simp only [Act.put, List.setIfInBounds_toArray, List.set_cons_zero, List.set_cons_succ, Array.toArray_toList]
                refine wpAnyH_ready (rs := [9]) (by kernel_rfl) (by simp) (AllReadyH.cons (o := { dst := some 135, op := Op.call { callee := Callee.value (Operand.func 22), args := #[Operand.tmp 134], argTypes := #[24] }, type := 33, pos := "outright.go:168", after := #[{ on := 8, ground := Ground.data }, { on := 7, ground := Ground.chain }, { on := 7, ground := Ground.guard }], guard := some (7, true) }) rfl (fun K hK => ?_) AllReadyH.nil)
                go_simp
                refine (net_any _ capx Tx Cx lx _ (FX14.out.keep hY3 (Nat.le_refl _)) (by omega)).mono ?_
                rintro e' y4 ⟨Aqb, cqb, rfl, hq, hqn, hb⟩
                have hY4 := hY3.trans (hb.mono hY3.size)
                have HQb := Lib.hid hq
                clear hq hqn
                clear hb
                go_wp2_with fail
                refine hK.out _ _ (keepS5 hY4 S0.out) (fun hS4 => ?_)
                clear hS3 hK K
                refine wpAnyH_ready (rs := [13]) (by kernel_rfl) (by simp) (AllReadyH.cons (o := { dst := some 139, op := Op.call { callee := Callee.value (Operand.func 25), args := #[Operand.tmp 138], argTypes := #[27] }, type := 37, pos := "outright.go:168", after := #[{ on := 12, ground := Ground.data }, { on := 9, ground := Ground.chain }, { on := 7, ground := Ground.guard }], guard := some (7, true) }) rfl (fun K hK => ?_) AllReadyH.nil)
                go_simp
                refine (cut_any At Ac tcap ccap ts cs _ hNt hNc (HT.out.keep (HB14.out.trans (hY4.mono HB14.out.size)) (Nat.le_refl _)) (HC.out.keep (HB14.out.trans (hY4.mono HB14.out.size)) (Nat.le_refl _)) (by omega) (by omega)).mono ?_
                rintro e' y5 ⟨u1, u2, rfl, hu1, hu2, hb⟩
                have hY5 := hY4.trans (hb.mono hY4.size)
                have HU1 := Lib.hid hu1
                have HU2 := Lib.hid hu2
                clear hu1 hu2
                have HZ := hb
                clear hb
                go_wp2_with fail
                refine hK.out _ _ (keepS5 hY5 S0.out) (fun hS5 => ?_)
                clear hS4 hK K
                refine wpAnyH_ready (rs := [14]) (by kernel_rfl) (by simp) (AllReadyH.cons (o := { dst := some 140, op := Op.call { callee := Callee.value (Operand.func 24), args := #[Operand.tmp 135, Operand.tmp 137, Operand.tmp 139], argTypes := #[33, 3, 37] }, type := 4, pos := "outright.go:168", after := #[{ on := 9, ground := Ground.data }, { on := 11, ground := Ground.data }, { on := 13, ground := Ground.data }, { on := 13, ground := Ground.chain }, { on := 7, ground := Ground.guard }], guard := some (7, true) }) rfl (fun K hK => ?_) AllReadyH.nil)
                go_simp
                have hpc := proveCut_any _ lx.length cqb Tx Cx f lx u1 u2 ts cs y5 (by omega) rfl (HQb.out.keep HZ (Nat.le_refl _)) HU1.out HU2.out (by omega) (by omega)
                rw [HCN.out] at hpc
                refine hpc.mono ?_
                rintro e' y6 ⟨rfl, hb⟩
                have hY6 := hY5.trans (hb.mono hY5.size)
                clear hb hpc
                go_wp2_with fail
                refine hK.out _ _ (keepS5 hY6 S0.out) (fun hS6 => ?_)
                clear hS5 hK K
                refine wpAnyH_take (i := 15) (oi := { dst := some 141, op := Op.unOp UnOp.not 4 (Operand.tmp 140), type := 4, pos := "outright.go:168", after := #[{ on := 14, ground := Ground.data }, { on := 7, ground := Ground.guard }], guard := some (7, true) }) (v := ?_) rfl (by kernel_rfl) (by kernel_rfl) (by kernel_rfl) (fun _ _ _ h => h) (Or.inl ⟨by rfl, ?_⟩) hS6 ?_
                rotate_left
                · intro X hX
                  obtain ⟨x0, x1, x2, x3, x4⟩ := hX
                  go_simp
                  try with_reducible rfl
                simp only [Act.put, List.setIfInBounds_toArray, List.set_cons_zero, List.set_cons_succ, Array.toArray_toList]
                refine wpAnyH_take (i := 16) (oi := { dst := some 142, op := Op.pick (Operand.tmp 133) (Operand.tmp 141) (Operand.const (Value.bool false)), type := 4, pos := "outright.go:168", after := #[{ on := 7, ground := Ground.data }, { on := 15, ground := Ground.data }], guard := none }) (v := ?_) rfl (by kernel_rfl) (by kernel_rfl) (by kernel_rfl) (fun _ _ _ h => h) (Or.inl ⟨by rfl, ?_⟩) hS6 ?_
                rotate_left
                · intro X hX
                  obtain ⟨x0, x1, x2, x3, x4⟩ := hX
                  go_simp
                  try with_reducible rfl
                simp only [Act.put, List.setIfInBounds_toArray, List.set_cons_zero, List.set_cons_succ, Array.toArray_toList]
                refine wpAnyH_take (i := 17) (oi := { dst := some 143, op := Op.move (Operand.tmp 142), type := 4, pos := "outright.go:168", after := #[{ on := 16, ground := Ground.data }, { on := 14, ground := Ground.chain }], guard := none }) (v := ?_) rfl (by kernel_rfl) (by kernel_rfl) (by kernel_rfl) (fun _ _ _ h => h) (Or.inl ⟨by rfl, ?_⟩) hS6 ?_
                rotate_left
                · intro X hX
                  obtain ⟨x0, x1, x2, x3, x4⟩ := hX
                  go_simp
                  try with_reducible rfl
                simp only [Act.put, List.setIfInBounds_toArray, List.set_cons_zero, List.set_cons_succ, Array.toArray_toList]
                refine wpAnyH_ready (rs := [18]) (by kernel_rfl) (by simp) (AllReadyH.cons (o := { dst := some 144, op := Op.call { callee := Callee.value (Operand.func 20), args := #[], argTypes := #[] }, type := 4, pos := "outright.go:168", after := #[{ on := 17, ground := Ground.chain }, { on := 17, ground := Ground.guard }], guard := some (17, true) }) rfl (fun K hK => ?_) AllReadyH.nil)
                go_simp
                refine (awake_any _).mono ?_
                rintro e' y7 ⟨rfl, hb⟩
                have hY7 := hY6.trans (hb.mono hY6.size)
                clear hb
                go_wp2_with fail
                refine hK.out _ _ (keepS5 hY7 S0.out) (fun hS7 => ?_)
                clear hS6 hK K
                refine wpAnyH_take (i := 19) (oi := { dst := some 145, op := Op.pick (Operand.tmp 143) (Operand.tmp 144) (Operand.const (Value.bool false)), type := 4, pos := "outright.go:168", after := #[{ on := 17, ground := Ground.data }, { on := 18, ground := Ground.data }], guard := none }) (v := ?_) rfl (by kernel_rfl) (by kernel_rfl) (by kernel_rfl) (fun _ _ _ h => h) (Or.inl ⟨by rfl, ?_⟩) hS7 ?_
                rotate_left
                · intro X hX
                  obtain ⟨x0, x1, x2, x3, x4⟩ := hX
                  go_simp
                  try with_reducible rfl
                simp only [Act.put, List.setIfInBounds_toArray, List.set_cons_zero, List.set_cons_succ, Array.toArray_toList]
                refine wpAnyH_ready (rs := [20]) (by kernel_rfl) (by simp) (AllReadyH.cons (o := { dst := some 8, op := Op.assign (Operand.tmp 145), type := 4, pos := "outright.go:168", after := #[{ on := 19, ground := Ground.data }, { on := 18, ground := Ground.chain }, { on := 0, ground := Ground.phase }, { on := 1, ground := Ground.phase }, { on := 2, ground := Ground.phase }, { on := 3, ground := Ground.phase }, { on := 4, ground := Ground.phase }, { on := 5, ground := Ground.phase }, { on := 6, ground := Ground.phase }, { on := 7, ground := Ground.phase }, { on := 8, ground := Ground.phase }, { on := 9, ground := Ground.phase }, { on := 10, ground := Ground.phase }, { on := 11, ground := Ground.phase }, { on := 12, ground := Ground.phase }, { on := 13, ground := Ground.phase }, { on := 14, ground := Ground.phase }, { on := 15, ground := Ground.phase }, { on := 16, ground := Ground.phase }, { on := 17, ground := Ground.phase }, { on := 18, ground := Ground.phase }, { on := 19, ground := Ground.phase }], guard := none }) rfl (fun K hK => ?_) AllReadyH.nil)
                go_simp
                refine hK.out _ _ (hS7) (fun hS8 => ?_)
                clear hS7 hK K
                refine wpAnyH_done (by kernel_rfl) ?_ _
                clear hS8
                have HBE := Lib.hid (HB14.out.trans (hY7.mono HB14.out.size))
                go_wp2_with fail
                go_ret
                exact ⟨rfl, HBE.out⟩
          | false =>
            rw [hcan] at hwI
            have hsu : sureL l T C e = 9 := by unfold sureL; rw [if_neg (by rw [HAS.out]; simp), hcan]; rfl
            obtain ⟨LN, hLN⟩ : ∃ N, leastN l T C = N := ⟨_, rfl⟩
            obtain ⟨LE, hLE⟩ : ∃ N, leastE l T C = N := ⟨_, rfl⟩
            rw [hLN, hLE] at hwI
            rw [hLE] at hwE
            have HLE := Lib.hid (And.intro hLE hLN)
            have HSU := Lib.hid hsu
            have HWE := Lib.hid hwE
            have HWI := Lib.hid (show LE = 0 → ¬ LN ≤ e from fun h1 h2 => by have := hwI.2 ⟨h1, h2⟩; cases this)
            clear hcan hsu hLN hLE hwE hwI
            go_wp2_with fail
            refine (net_any _ cap T C l _ (HA.out.keep HB3.out (Nat.le_refl _)) (by omega)).mono ?_
            rintro e w4 ⟨Aq1, cq1, rfl, hq, hqn, hb⟩
            have HB4 := Lib.hid ((HB3.out).trans (hb.mono (HB3.out).size))
            have NBi4 := Lib.hid ((hb.block Bi (Array.getElem?_eq_some_iff.1 NBi3.out).1).trans NBi3.out)
            have NBt4 := Lib.hid ((hb.block Bt (Array.getElem?_eq_some_iff.1 NBt3.out).1).trans NBt3.out)
            have FQ14 := Lib.hid hq
            clear HB3 NBi3 NBt3 cBi0_3 cBi1_3 cBi2_3 cBt0_3 cBt1_3 hq hb hqn
            have cBi0_4 : w4.cell? ⟨Bi, 0, none⟩ = some (.slice (some ⟨b, o, none⟩) l.length cap) := by simp [World.cell?, NBi4.out]
            have cBi1_4 : w4.cell? ⟨Bi, 1, none⟩ = some (.int .i64 T) := by simp [World.cell?, NBi4.out]
            have cBi2_4 : w4.cell? ⟨Bi, 2, none⟩ = some (.int .i64 C) := by simp [World.cell?, NBi4.out]
            have cBt0_4 : w4.cell? ⟨Bt, 0, none⟩ = some (.slice At ts.length tcap) := by simp [World.cell?, NBt4.out]
            have cBt1_4 : w4.cell? ⟨Bt, 1, none⟩ = some (.slice Ac cs.length ccap) := by simp [World.cell?, NBt4.out]
            have hsv := Lib.hid (show_no (cap := cq1) (by omega : l.length ≤ 1000000) rfl FQ14.out (show sureL l T C e ≠ 0 by rw [HSU.out]; simp))
            rw [HSU.out] at hsv
            clear FQ14
            go_wp2_with fail
            refine (hsv.out).mono ?_
            rintro e w5 ⟨rfl, hb⟩
            have HB5 := Lib.hid ((HB4.out).trans (hb.mono (HB4.out).size))
            have NBi5 := Lib.hid ((hb.block Bi (Array.getElem?_eq_some_iff.1 NBi4.out).1).trans NBi4.out)
            have NBt5 := Lib.hid ((hb.block Bt (Array.getElem?_eq_some_iff.1 NBt4.out).1).trans NBt4.out)
            clear HB4 NBi4 NBt4 cBi0_4 cBi1_4 cBi2_4 cBt0_4 cBt1_4  hb hsv
            have cBi0_5 : w5.cell? ⟨Bi, 0, none⟩ = some (.slice (some ⟨b, o, none⟩) l.length cap) := by simp [World.cell?, NBi5.out]
            have cBi1_5 : w5.cell? ⟨Bi, 1, none⟩ = some (.int .i64 T) := by simp [World.cell?, NBi5.out]
            have cBi2_5 : w5.cell? ⟨Bi, 2, none⟩ = some (.int .i64 C) := by simp [World.cell?, NBi5.out]
            have cBt0_5 : w5.cell? ⟨Bt, 0, none⟩ = some (.slice At ts.length tcap) := by simp [World.cell?, NBt5.out]
            have cBt1_5 : w5.cell? ⟨Bt, 1, none⟩ = some (.slice Ac cs.length ccap) := by simp [World.cell?, NBt5.out]
            go_wp2_with fail
            refine (net_any _ cap T C l _ (HA.out.keep HB5.out (Nat.le_refl _)) (by omega)).mono ?_
            rintro e w6 ⟨Aq2, cq2, rfl, hq, hqn, hb⟩
            have HB6 := Lib.hid ((HB5.out).trans (hb.mono (HB5.out).size))
            have NBi6 := Lib.hid ((hb.block Bi (Array.getElem?_eq_some_iff.1 NBi5.out).1).trans NBi5.out)
            have NBt6 := Lib.hid ((hb.block Bt (Array.getElem?_eq_some_iff.1 NBt5.out).1).trans NBt5.out)
            have FQ26 := Lib.hid hq
            clear HB5 NBi5 NBt5 cBi0_5 cBi1_5 cBi2_5 cBt0_5 cBt1_5 hq hb hqn
            have cBi0_6 : w6.cell? ⟨Bi, 0, none⟩ = some (.slice (some ⟨b, o, none⟩) l.length cap) := by simp [World.cell?, NBi6.out]
            have cBi1_6 : w6.cell? ⟨Bi, 1, none⟩ = some (.int .i64 T) := by simp [World.cell?, NBi6.out]
            have cBi2_6 : w6.cell? ⟨Bi, 2, none⟩ = some (.int .i64 C) := by simp [World.cell?, NBi6.out]
            have cBt0_6 : w6.cell? ⟨Bt, 0, none⟩ = some (.slice At ts.length tcap) := by simp [World.cell?, NBt6.out]
            have cBt1_6 : w6.cell? ⟨Bt, 1, none⟩ = some (.slice Ac cs.length ccap) := by simp [World.cell?, NBt6.out]
            have hpv := Lib.hid (prove_yes (cap := cq2) (by omega : l.length ≤ 1000000) rfl FQ26.out HSU.out)
            clear FQ26
            go_wp2_with fail
            refine (hpv.out).mono ?_
            rintro e w7 ⟨Ap, Bp, tp, cp, tps, cps, rfl, hpt, hpc, hpt5, hpc5, hprv, hb⟩; have HPR := Lib.hid (show cutB l T C e tps cps = true by rw [cutB_proves, HAS.out, hprv]; rfl)
            have HB7 := Lib.hid ((HB6.out).trans (hb.mono (HB6.out).size))
            have NBi7 := Lib.hid ((hb.block Bi (Array.getElem?_eq_some_iff.1 NBi6.out).1).trans NBi6.out)
            have NBt7 := Lib.hid ((hb.block Bt (Array.getElem?_eq_some_iff.1 NBt6.out).1).trans NBt6.out)
            have FP7 := Lib.hid hpt
            have FR7 := Lib.hid hpc
            clear HB6 NBi6 NBt6 cBi0_6 cBi1_6 cBi2_6 cBt0_6 cBt1_6 hpt hpc hb hpv hprv
            have cBi0_7 : w7.cell? ⟨Bi, 0, none⟩ = some (.slice (some ⟨b, o, none⟩) l.length cap) := by simp [World.cell?, NBi7.out]
            have cBi1_7 : w7.cell? ⟨Bi, 1, none⟩ = some (.int .i64 T) := by simp [World.cell?, NBi7.out]
            have cBi2_7 : w7.cell? ⟨Bi, 2, none⟩ = some (.int .i64 C) := by simp [World.cell?, NBi7.out]
            have cBt0_7 : w7.cell? ⟨Bt, 0, none⟩ = some (.slice At ts.length tcap) := by simp [World.cell?, NBt7.out]
            have cBt1_7 : w7.cell? ⟨Bt, 1, none⟩ = some (.slice Ac cs.length ccap) := by simp [World.cell?, NBt7.out]
            have lBi := (Array.getElem?_eq_some_iff.1 NBi7.out).1
            have lBt := (Array.getElem?_eq_some_iff.1 NBt7.out).1
            go_wp2_with fail
            have hbx : Below w7.heap.size w7 (w7.alloc (.cells #[.slice Ap tps.length tp, .slice Bp cps.length cp] 37)) := (Below.refl _ _).alloc (Nat.le_refl _) _
            have hnx := Go.heap_alloc_new w7 (.cells #[.slice Ap tps.length tp, .slice Bp cps.length cp] 37)
            obtain ⟨Bp2, hBp2⟩ : ∃ x, w7.heap.size = x := ⟨_, rfl⟩
            have oBp2 : w.heap.size ≤ Bp2 := by have := HB7.out.size; omega
            have oBiBp2 : Bi < Bp2 := by have := (Array.getElem?_eq_some_iff.1 NBi7.out).1; omega
            have oBtBp2 : Bt < Bp2 := by have := (Array.getElem?_eq_some_iff.1 NBt7.out).1; omega
            generalize hwx : w7.alloc (.cells #[.slice Ap tps.length tp, .slice Bp cps.length cp] 37) = w8 at hbx hnx ⊢
            have HB8 := Lib.hid ((HB7.out).trans (hbx.mono (HB7.out).size))
            have NBi8 := Lib.hid ((hbx.block Bi (Array.getElem?_eq_some_iff.1 NBi7.out).1).trans NBi7.out)
            have NBt8 := Lib.hid ((hbx.block Bt (Array.getElem?_eq_some_iff.1 NBt7.out).1).trans NBt7.out)
            have FP8 := Lib.hid ((FP7.out).keep hbx (Nat.le_refl _))
            have FR8 := Lib.hid ((FR7.out).keep hbx (Nat.le_refl _))
            clear HB7 NBi7 NBt7 cBi0_7 cBi1_7 cBi2_7 cBt0_7 cBt1_7 FP7 FR7 hbx 
            have cBi0_8 : w8.cell? ⟨Bi, 0, none⟩ = some (.slice (some ⟨b, o, none⟩) l.length cap) := by simp [World.cell?, NBi8.out]
            have cBi1_8 : w8.cell? ⟨Bi, 1, none⟩ = some (.int .i64 T) := by simp [World.cell?, NBi8.out]
            have cBi2_8 : w8.cell? ⟨Bi, 2, none⟩ = some (.int .i64 C) := by simp [World.cell?, NBi8.out]
            have cBt0_8 : w8.cell? ⟨Bt, 0, none⟩ = some (.slice At ts.length tcap) := by simp [World.cell?, NBt8.out]
            have cBt1_8 : w8.cell? ⟨Bt, 1, none⟩ = some (.slice Ac cs.length ccap) := by simp [World.cell?, NBt8.out]
            rw [hBp2] at hnx ⊢
            have NBp28 := Lib.hid hnx
            clear hnx hwx hBp2
            have cBp20_8 : w8.cell? ⟨Bp2, 0, none⟩ = some (.slice Ap tps.length tp) := by simp [World.cell?, NBp28.out]
            have cBp21_8 : w8.cell? ⟨Bp2, 1, none⟩ = some (.slice Bp cps.length cp) := by simp [World.cell?, NBp28.out]
            clear lBi lBt
            go_wp2_with fail
            refine (net_any _ cap T C l _ (HA.out.keep HB8.out (Nat.le_refl _)) (by omega)).mono ?_
            rintro e w9 ⟨Aq3, cq3, rfl, hq, hqn, hb⟩
            have HB9 := Lib.hid ((HB8.out).trans (hb.mono (HB8.out).size))
            have NBi9 := Lib.hid ((hb.block Bi (Array.getElem?_eq_some_iff.1 NBi8.out).1).trans NBi8.out)
            have NBt9 := Lib.hid ((hb.block Bt (Array.getElem?_eq_some_iff.1 NBt8.out).1).trans NBt8.out)
            have NBp29 := Lib.hid ((hb.block Bp2 (Array.getElem?_eq_some_iff.1 NBp28.out).1).trans NBp28.out)
            have FP9 := Lib.hid ((FP8.out).keep hb (Nat.le_refl _))
            have FR9 := Lib.hid ((FR8.out).keep hb (Nat.le_refl _))
            have FQ39 := Lib.hid hq
            clear HB8 NBi8 NBt8 NBp28 cBi0_8 cBi1_8 cBi2_8 cBt0_8 cBt1_8 cBp20_8 cBp21_8 FP8 FR8 hq hb hqn
            have cBi0_9 : w9.cell? ⟨Bi, 0, none⟩ = some (.slice (some ⟨b, o, none⟩) l.length cap) := by simp [World.cell?, NBi9.out]
            have cBi1_9 : w9.cell? ⟨Bi, 1, none⟩ = some (.int .i64 T) := by simp [World.cell?, NBi9.out]
            have cBi2_9 : w9.cell? ⟨Bi, 2, none⟩ = some (.int .i64 C) := by simp [World.cell?, NBi9.out]
            have cBt0_9 : w9.cell? ⟨Bt, 0, none⟩ = some (.slice At ts.length tcap) := by simp [World.cell?, NBt9.out]
            have cBt1_9 : w9.cell? ⟨Bt, 1, none⟩ = some (.slice Ac cs.length ccap) := by simp [World.cell?, NBt9.out]
            have cBp20_9 : w9.cell? ⟨Bp2, 0, none⟩ = some (.slice Ap tps.length tp) := by simp [World.cell?, NBp29.out]
            have cBp21_9 : w9.cell? ⟨Bp2, 1, none⟩ = some (.slice Bp cps.length cp) := by simp [World.cell?, NBp29.out]
            have hle := Lib.hid (least_any _ l.length cq3 T C l _ (by omega) rfl FQ39.out)
            rw [HLE.out.1, HLE.out.2] at hle
            clear FQ39
            go_wp2_with fail
            refine (hle.out).mono ?_
            rintro e w10 ⟨rfl, hb⟩
            have HB10 := Lib.hid ((HB9.out).trans (hb.mono (HB9.out).size))
            have NBi10 := Lib.hid ((hb.block Bi (Array.getElem?_eq_some_iff.1 NBi9.out).1).trans NBi9.out)
            have NBt10 := Lib.hid ((hb.block Bt (Array.getElem?_eq_some_iff.1 NBt9.out).1).trans NBt9.out)
            have NBp210 := Lib.hid ((hb.block Bp2 (Array.getElem?_eq_some_iff.1 NBp29.out).1).trans NBp29.out)
            have FP10 := Lib.hid ((FP9.out).keep hb (Nat.le_refl _))
            have FR10 := Lib.hid ((FR9.out).keep hb (Nat.le_refl _))
            clear HB9 NBi9 NBt9 NBp29 cBi0_9 cBi1_9 cBi2_9 cBt0_9 cBt1_9 cBp20_9 cBp21_9 FP9 FR9 hb hle
            have cBi0_10 : w10.cell? ⟨Bi, 0, none⟩ = some (.slice (some ⟨b, o, none⟩) l.length cap) := by simp [World.cell?, NBi10.out]
            have cBi1_10 : w10.cell? ⟨Bi, 1, none⟩ = some (.int .i64 T) := by simp [World.cell?, NBi10.out]
            have cBi2_10 : w10.cell? ⟨Bi, 2, none⟩ = some (.int .i64 C) := by simp [World.cell?, NBi10.out]
            have cBt0_10 : w10.cell? ⟨Bt, 0, none⟩ = some (.slice At ts.length tcap) := by simp [World.cell?, NBt10.out]
            have cBt1_10 : w10.cell? ⟨Bt, 1, none⟩ = some (.slice Ac cs.length ccap) := by simp [World.cell?, NBt10.out]
            have cBp20_10 : w10.cell? ⟨Bp2, 0, none⟩ = some (.slice Ap tps.length tp) := by simp [World.cell?, NBp210.out]
            have cBp21_10 : w10.cell? ⟨Bp2, 1, none⟩ = some (.slice Bp cps.length cp) := by simp [World.cell?, NBp210.out]
            rcases HWE.out with rfl | rfl
            · have d1 : decide (LN ≤ e) = false := decide_eq_false (fun h => by have := HWI.out rfl; omega)
              clear HWI HWE
              go_upto_region 12 with fail
              have S0 := Lib.hid (⟨cBi0_10, cBi1_10, cBi2_10, cBp20_10, cBp21_10⟩ : w10.cell? ⟨Bi, 0, none⟩ = some (.slice (some ⟨b, o, none⟩) l.length cap) ∧ w10.cell? ⟨Bi, 1, none⟩ = some (.int .i64 T) ∧ w10.cell? ⟨Bi, 2, none⟩ = some (.int .i64 C) ∧ w10.cell? ⟨Bp2, 0, none⟩ = some (.slice Ap tps.length tp) ∧ w10.cell? ⟨Bp2, 1, none⟩ = some (.slice Bp cps.length cp))
              go_cut [114] from 101 to 114 (fun s wc => s = .bool false ∧ Below w10.heap.size w10 wc)
              case first =>
                refine wp_region_held_drew (S := fun X => X.cell? ⟨Bi, 0, none⟩ = some (.slice (some ⟨b, o, none⟩) l.length cap) ∧ X.cell? ⟨Bi, 1, none⟩ = some (.int .i64 T) ∧ X.cell? ⟨Bi, 2, none⟩ = some (.int .i64 C) ∧ X.cell? ⟨Bp2, 0, none⟩ = some (.slice Ap tps.length tp) ∧ X.cell? ⟨Bp2, 1, none⟩ = some (.slice Bp cps.length cp)) (by kernel_rfl) (S0.out) (fun hS0 => ?_)
                refine wpAnyH_take (i := 0) (oi := { dst := some 101, op := Op.move (Operand.tmp 11), type := 39, pos := "outright.go:161", after := #[], guard := none }) (v := ?_) rfl (by kernel_rfl) (by kernel_rfl) (by kernel_rfl) (fun _ _ _ h => h) (Or.inl ⟨by rfl, ?_⟩) hS0 ?_
                rotate_left
                · intro X hX
                  obtain ⟨x0, x1, x2, x3, x4⟩ := hX
                  go_simp
                  try with_reducible rfl
                simp only [Act.put, List.setIfInBounds_toArray, List.set_cons_zero, List.set_cons_succ, Array.toArray_toList]
                refine wpAnyH_take (i := 1) (oi := { dst := some 102, op := Op.binOp BinOp.neq 39 (Operand.tmp 101) (Operand.const (Value.int IntKind.i64 9)) 39, type := 4, pos := "outright.go:161", after := #[{ on := 0, ground := Ground.data }], guard := none }) (v := ?_) rfl (by kernel_rfl) (by kernel_rfl) (by kernel_rfl) (fun _ _ _ h => h) (Or.inl ⟨by rfl, ?_⟩) hS0 ?_
                rotate_left
                · intro X hX
                  obtain ⟨x0, x1, x2, x3, x4⟩ := hX
                  go_simp
                  try with_reducible rfl
                simp only [Act.put, List.setIfInBounds_toArray, List.set_cons_zero, List.set_cons_succ, Array.toArray_toList]
                refine wpAnyH_take (i := 2) (oi := { dst := some 103, op := Op.move (Operand.tmp 102), type := 4, pos := "outright.go:161", after := #[{ on := 1, ground := Ground.data }], guard := none }) (v := ?_) rfl (by kernel_rfl) (by kernel_rfl) (by kernel_rfl) (fun _ _ _ h => h) (Or.inl ⟨by rfl, ?_⟩) hS0 ?_
                rotate_left
                · intro X hX
                  obtain ⟨x0, x1, x2, x3, x4⟩ := hX
                  go_simp
                  try with_reducible rfl
                simp only [Act.put, List.setIfInBounds_toArray, List.set_cons_zero, List.set_cons_succ, Array.toArray_toList]
                refine wpAnyH_take (i := 3) (oi := { dst := some 104, op := Op.move (Operand.tmp 13), type := 39, pos := "outright.go:161", after := #[{ on := 2, ground := Ground.guard }], guard := some (2, false) }) (v := ?_) rfl (by kernel_rfl) (by kernel_rfl) (by kernel_rfl) (fun _ _ _ h => h) (Or.inl ⟨by rfl, ?_⟩) hS0 ?_
                rotate_left
                · intro X hX
                  obtain ⟨x0, x1, x2, x3, x4⟩ := hX
                  go_simp
                  try with_reducible rfl
                simp only [Act.put, List.setIfInBounds_toArray, List.set_cons_zero, List.set_cons_succ, Array.toArray_toList]
                refine wpAnyH_take (i := 4) (oi := { dst := some 105, op := Op.binOp BinOp.neq 39 (Operand.tmp 104) (Operand.const (Value.int IntKind.i64 0)) 39, type := 4, pos := "outright.go:161", after := #[{ on := 3, ground := Ground.data }, { on := 2, ground := Ground.guard }], guard := some (2, false) }) (v := ?_) rfl (by kernel_rfl) (by kernel_rfl) (by kernel_rfl) (fun _ _ _ h => h) (Or.inl ⟨by rfl, ?_⟩) hS0 ?_
                rotate_left
                · intro X hX
                  obtain ⟨x0, x1, x2, x3, x4⟩ := hX
                  go_simp
                  try with_reducible rfl
                simp only [Act.put, List.setIfInBounds_toArray, List.set_cons_zero, List.set_cons_succ, Array.toArray_toList]
                refine wpAnyH_take (i := 5) (oi := { dst := some 106, op := Op.pick (Operand.tmp 103) (Operand.const (Value.bool true)) (Operand.tmp 105), type := 4, pos := "outright.go:161", after := #[{ on := 2, ground := Ground.data }, { on := 4, ground := Ground.data }], guard := none }) (v := ?_) rfl (by kernel_rfl) (by kernel_rfl) (by kernel_rfl) (fun _ _ _ h => h) (Or.inl ⟨by rfl, ?_⟩) hS0 ?_
                rotate_left
                · intro X hX
                  obtain ⟨x0, x1, x2, x3, x4⟩ := hX
                  go_simp
                  try with_reducible rfl
                simp only [Act.put, List.setIfInBounds_toArray, List.set_cons_zero, List.set_cons_succ, Array.toArray_toList]
                refine wpAnyH_take (i := 6) (oi := { dst := some 107, op := Op.move (Operand.tmp 106), type := 4, pos := "outright.go:161", after := #[{ on := 5, ground := Ground.data }, { on := 2, ground := Ground.chain }], guard := none }) (v := ?_) rfl (by kernel_rfl) (by kernel_rfl) (by kernel_rfl) (fun _ _ _ h => h) (Or.inl ⟨by rfl, ?_⟩) hS0 ?_
                rotate_left
                · intro X hX
                  obtain ⟨x0, x1, x2, x3, x4⟩ := hX
                  go_simp
                  try with_reducible rfl
                simp only [Act.put, List.setIfInBounds_toArray, List.set_cons_zero, List.set_cons_succ, Array.toArray_toList]
                refine wpAnyH_take (i := 7) (oi := { dst := some 108, op := Op.load 24 (Operand.tmp 4), type := 24, pos := "outright.go:161", after := #[{ on := 6, ground := Ground.guard }], guard := some (6, false) }) (v := ?_) rfl (by kernel_rfl) (by kernel_rfl) (by kernel_rfl) (fun _ _ _ h => h) (Or.inl ⟨by rfl, ?_⟩) hS0 ?_
                rotate_left
                · intro X hX
                  obtain ⟨x0, x1, x2, x3, x4⟩ := hX
                  go_simp
                  try with_reducible rfl
                simp only [Act.put, List.setIfInBounds_toArray, List.set_cons_zero, List.set_cons_succ, Array.toArray_toList]
                refine wpAnyH_take (i := 9) (oi := { dst := some 110, op := Op.move (Operand.tmp 9), type := 3, pos := "outright.go:161", after := #[{ on := 6, ground := Ground.guard }], guard := some (6, false) }) (v := ?_) rfl (by kernel_rfl) (by kernel_rfl) (by kernel_rfl) (fun _ _ _ h => h) (Or.inl ⟨by rfl, ?_⟩) hS0 ?_
                rotate_left
                · intro X hX
                  obtain ⟨x0, x1, x2, x3, x4⟩ := hX
                  go_simp
                  try with_reducible rfl
                simp only [Act.put, List.setIfInBounds_toArray, List.set_cons_zero, List.set_cons_succ, Array.toArray_toList]
                refine wpAnyH_take (i := 10) (oi := { dst := some 111, op := Op.load 37 (Operand.tmp 12), type := 37, pos := "outright.go:161", after := #[{ on := 6, ground := Ground.guard }], guard := some (6, false) }) (v := ?_) rfl (by kernel_rfl) (by kernel_rfl) (by kernel_rfl) (fun _ _ _ h => h) (Or.inl ⟨by rfl, ?_⟩) hS0 ?_
                rotate_left
                · intro X hX
                  obtain ⟨x0, x1, x2, x3, x4⟩ := hX
                  go_simp
                  try with_reducible rfl
                simp only [Act.put, List.setIfInBounds_toArray, List.set_cons_zero, List.set_cons_succ, Array.toArray_toList]
                refine wpAnyH_ready (rs := [8]) (by kernel_rfl) (by simp) (AllReadyH.cons (o := { dst := some 109, op := Op.call { callee := Callee.value (Operand.func 22), args := #[Operand.tmp 108], argTypes := #[24] }, type := 33, pos := "outright.go:161", after := #[{ on := 7, ground := Ground.data }, { on := 6, ground := Ground.chain }, { on := 6, ground := Ground.guard }], guard := some (6, false) }) rfl (fun K hK => ?_) AllReadyH.nil)
                go_simp
                refine (net_any _ cap T C l _ (HA.out.keep HB10.out.drew (Nat.le_refl _)) (by omega)).mono ?_
                rintro e' y1 ⟨Aqz, cqz, rfl, hq, hqn, hb⟩
                have hY1 := (Below.refl _ w10).drew.trans hb
                have HQZ := Lib.hid hq
                clear hq hqn hb
                go_wp2_with fail
                refine hK.out _ _ (keepS5 hY1 S0.out) (fun hS1 => ?_)
                clear hS0 hK K
                refine wpAnyH_ready (rs := [11]) (by kernel_rfl) (by simp) (AllReadyH.cons (o := { dst := some 112, op := Op.call { callee := Callee.value (Operand.func 24), args := #[Operand.tmp 109, Operand.tmp 110, Operand.tmp 111], argTypes := #[33, 3, 37] }, type := 4, pos := "outright.go:161", after := #[{ on := 8, ground := Ground.data }, { on := 9, ground := Ground.data }, { on := 10, ground := Ground.data }, { on := 8, ground := Ground.chain }, { on := 6, ground := Ground.guard }], guard := some (6, false) }) rfl (fun K hK => ?_) AllReadyH.nil)
                go_simp
                have hpc := proveCut_any _ l.length cqz T C e l _ _ tps cps y1 (by omega) rfl HQZ.out (FP10.out.keep hY1 (Nat.le_refl _)) (FR10.out.keep hY1 (Nat.le_refl _)) (by omega) (by omega)
                rw [HPR.out] at hpc
                refine hpc.mono ?_
                rintro e' y2 ⟨rfl, hb⟩
                have hY2 := hY1.trans (hb.mono hY1.size)
                clear hpc hb
                go_wp2_with fail
                refine hK.out _ _ (keepS5 hY2 S0.out) (fun hS2 => ?_)
                clear hS1 hK K
                refine wpAnyH_take (i := 12) (oi := { dst := some 113, op := Op.unOp UnOp.not 4 (Operand.tmp 112), type := 4, pos := "outright.go:161", after := #[{ on := 11, ground := Ground.data }, { on := 6, ground := Ground.guard }], guard := some (6, false) }) (v := ?_) rfl (by kernel_rfl) (by kernel_rfl) (by kernel_rfl) (fun _ _ _ h => h) (Or.inl ⟨by rfl, ?_⟩) hS2 ?_
                rotate_left
                · intro X hX
                  obtain ⟨x0, x1, x2, x3, x4⟩ := hX
                  go_simp
                  try with_reducible rfl
                simp only [Act.put, List.setIfInBounds_toArray, List.set_cons_zero, List.set_cons_succ, Array.toArray_toList]
                refine wpAnyH_take (i := 13) (oi := { dst := some 114, op := Op.pick (Operand.tmp 107) (Operand.const (Value.bool true)) (Operand.tmp 113), type := 4, pos := "outright.go:161", after := #[{ on := 6, ground := Ground.data }, { on := 12, ground := Ground.data }], guard := none }) (v := ?_) rfl (by kernel_rfl) (by kernel_rfl) (by kernel_rfl) (fun _ _ _ h => h) (Or.inl ⟨by rfl, ?_⟩) hS2 ?_
                rotate_left
                · intro X hX
                  obtain ⟨x0, x1, x2, x3, x4⟩ := hX
                  go_simp
                  try with_reducible rfl
                simp only [Act.put, List.setIfInBounds_toArray, List.set_cons_zero, List.set_cons_succ, Array.toArray_toList]
                refine wpAnyH_done (by kernel_rfl) ?_ _
                clear hS2
                go_wp2
                go_meet
                case rel => exact ⟨rfl, hY2⟩
              case rest =>
                obtain ⟨rfl, hbw⟩ := hcut
                obtain ⟨w11, rfl⟩ : ∃ x : World, x = wc := ⟨_, rfl⟩
                have HB11 := Lib.hid ((HB10.out).trans (hbw.mono (HB10.out).size))
                have NBi11 := Lib.hid ((hbw.block Bi (Array.getElem?_eq_some_iff.1 NBi10.out).1).trans NBi10.out)
                have NBt11 := Lib.hid ((hbw.block Bt (Array.getElem?_eq_some_iff.1 NBt10.out).1).trans NBt10.out)
                have NBp211 := Lib.hid ((hbw.block Bp2 (Array.getElem?_eq_some_iff.1 NBp210.out).1).trans NBp210.out)
                have FP11 := Lib.hid ((FP10.out).keep hbw (Nat.le_refl _))
                have FR11 := Lib.hid ((FR10.out).keep hbw (Nat.le_refl _))
                clear HB10 NBi10 NBt10 NBp210 cBi0_10 cBi1_10 cBi2_10 cBt0_10 cBt1_10 cBp20_10 cBp21_10 FP10 FR10 hbw S0
                have cBi0_11 : w11.cell? ⟨Bi, 0, none⟩ = some (.slice (some ⟨b, o, none⟩) l.length cap) := by simp [World.cell?, NBi11.out]
                have cBi1_11 : w11.cell? ⟨Bi, 1, none⟩ = some (.int .i64 T) := by simp [World.cell?, NBi11.out]
                have cBi2_11 : w11.cell? ⟨Bi, 2, none⟩ = some (.int .i64 C) := by simp [World.cell?, NBi11.out]
                have cBt0_11 : w11.cell? ⟨Bt, 0, none⟩ = some (.slice At ts.length tcap) := by simp [World.cell?, NBt11.out]
                have cBt1_11 : w11.cell? ⟨Bt, 1, none⟩ = some (.slice Ac cs.length ccap) := by simp [World.cell?, NBt11.out]
                have cBp20_11 : w11.cell? ⟨Bp2, 0, none⟩ = some (.slice Ap tps.length tp) := by simp [World.cell?, NBp211.out]
                have cBp21_11 : w11.cell? ⟨Bp2, 1, none⟩ = some (.slice Bp cps.length cp) := by simp [World.cell?, NBp211.out]
                clear FP11
                clear FR11
                obtain ⟨f, hf⟩ : ∃ f, e % 6 = f := ⟨_, rfl⟩
                have f0 : 0 ≤ f ∧ f ≤ 5 := by omega
                have hcl := Lib.hid (closed_any (.slice Aw ws.length capw) ws f _ (HW.out.keep HB11.out (Nat.le_refl _)) hWl f0)
                go_wp2_with fail
                refine hcl.out.mono ?_
                rintro e' w12 ⟨hb, Ax, capx, Tx, Cx, vx, lx, xs, rfl, hAx, hIx, ⟨gx, rfl⟩, hlen, hcl2⟩
                obtain ⟨Av, cv, rfl, _⟩ := id hIx
                have HLEN := Lib.hid hlen
                clear hlen hcl
                have HB12 := Lib.hid ((HB11.out).trans (hb.mono (HB11.out).size))
                have NBi12 := Lib.hid ((hb.block Bi (Array.getElem?_eq_some_iff.1 NBi11.out).1).trans NBi11.out)
                have NBt12 := Lib.hid ((hb.block Bt (Array.getElem?_eq_some_iff.1 NBt11.out).1).trans NBt11.out)
                have NBp212 := Lib.hid ((hb.block Bp2 (Array.getElem?_eq_some_iff.1 NBp211.out).1).trans NBp211.out)
                have FX12 := Lib.hid hAx
                have FV12 := Lib.hid hIx
                clear HB11 NBi11 NBt11 NBp211 cBi0_11 cBi1_11 cBi2_11 cBt0_11 cBt1_11 cBp20_11 cBp21_11 hAx hIx hb 
                have cBi0_12 : w12.cell? ⟨Bi, 0, none⟩ = some (.slice (some ⟨b, o, none⟩) l.length cap) := by simp [World.cell?, NBi12.out]
                have cBi1_12 : w12.cell? ⟨Bi, 1, none⟩ = some (.int .i64 T) := by simp [World.cell?, NBi12.out]
                have cBi2_12 : w12.cell? ⟨Bi, 2, none⟩ = some (.int .i64 C) := by simp [World.cell?, NBi12.out]
                have cBt0_12 : w12.cell? ⟨Bt, 0, none⟩ = some (.slice At ts.length tcap) := by simp [World.cell?, NBt12.out]
                have cBt1_12 : w12.cell? ⟨Bt, 1, none⟩ = some (.slice Ac cs.length ccap) := by simp [World.cell?, NBt12.out]
                have cBp20_12 : w12.cell? ⟨Bp2, 0, none⟩ = some (.slice Ap tps.length tp) := by simp [World.cell?, NBp212.out]
                have cBp21_12 : w12.cell? ⟨Bp2, 1, none⟩ = some (.slice Bp cps.length cp) := by simp [World.cell?, NBp212.out]
                rcases hcl2 with ⟨h13, hf3⟩ | ⟨hokx, htb⟩
                · have HF := Lib.hid hf3
                  have hl13 : lx.length ≤ 1000000 := by omega
                  clear hf3 h13
                  go_wp2_with fail
                  have hbx : Below w12.heap.size w12 (w12.alloc (.cells #[.slice (some ⟨gx, 0, none⟩) lx.length capx, .int .i64 Tx, .int .i64 Cx] 24)) := (Below.refl _ _).alloc (Nat.le_refl _) _
                  have hnx := Go.heap_alloc_new w12 (.cells #[.slice (some ⟨gx, 0, none⟩) lx.length capx, .int .i64 Tx, .int .i64 Cx] 24)
                  obtain ⟨Bx, hBx⟩ : ∃ x, w12.heap.size = x := ⟨_, rfl⟩
                  have oBx : w.heap.size ≤ Bx := by have := HB12.out.size; omega
                  have oBiBx : Bi < Bx := by have := (Array.getElem?_eq_some_iff.1 NBi12.out).1; omega
                  have oBtBx : Bt < Bx := by have := (Array.getElem?_eq_some_iff.1 NBt12.out).1; omega
                  have oBp2Bx : Bp2 < Bx := by have := (Array.getElem?_eq_some_iff.1 NBp212.out).1; omega
                  generalize hwx : w12.alloc (.cells #[.slice (some ⟨gx, 0, none⟩) lx.length capx, .int .i64 Tx, .int .i64 Cx] 24) = w13 at hbx hnx ⊢
                  have HB13 := Lib.hid ((HB12.out).trans (hbx.mono (HB12.out).size))
                  have NBi13 := Lib.hid ((hbx.block Bi (Array.getElem?_eq_some_iff.1 NBi12.out).1).trans NBi12.out)
                  have NBt13 := Lib.hid ((hbx.block Bt (Array.getElem?_eq_some_iff.1 NBt12.out).1).trans NBt12.out)
                  have NBp213 := Lib.hid ((hbx.block Bp2 (Array.getElem?_eq_some_iff.1 NBp212.out).1).trans NBp212.out)
                  have FX13 := Lib.hid ((FX12.out).keep hbx (Nat.le_refl _))
                  have FV13 := Lib.hid ((FV12.out).keep hbx (Nat.le_refl _))
                  clear HB12 NBi12 NBt12 NBp212 cBi0_12 cBi1_12 cBi2_12 cBt0_12 cBt1_12 cBp20_12 cBp21_12 FX12 FV12 hbx 
                  have cBi0_13 : w13.cell? ⟨Bi, 0, none⟩ = some (.slice (some ⟨b, o, none⟩) l.length cap) := by simp [World.cell?, NBi13.out]
                  have cBi1_13 : w13.cell? ⟨Bi, 1, none⟩ = some (.int .i64 T) := by simp [World.cell?, NBi13.out]
                  have cBi2_13 : w13.cell? ⟨Bi, 2, none⟩ = some (.int .i64 C) := by simp [World.cell?, NBi13.out]
                  have cBt0_13 : w13.cell? ⟨Bt, 0, none⟩ = some (.slice At ts.length tcap) := by simp [World.cell?, NBt13.out]
                  have cBt1_13 : w13.cell? ⟨Bt, 1, none⟩ = some (.slice Ac cs.length ccap) := by simp [World.cell?, NBt13.out]
                  have cBp20_13 : w13.cell? ⟨Bp2, 0, none⟩ = some (.slice Ap tps.length tp) := by simp [World.cell?, NBp213.out]
                  have cBp21_13 : w13.cell? ⟨Bp2, 1, none⟩ = some (.slice Bp cps.length cp) := by simp [World.cell?, NBp213.out]
                  rw [hBx] at hnx ⊢
                  have NBx13 := Lib.hid hnx
                  clear hnx hwx hBx
                  have cBx0_13 : w13.cell? ⟨Bx, 0, none⟩ = some (.slice (some ⟨gx, 0, none⟩) lx.length capx) := by simp [World.cell?, NBx13.out]
                  have cBx1_13 : w13.cell? ⟨Bx, 1, none⟩ = some (.int .i64 Tx) := by simp [World.cell?, NBx13.out]
                  have cBx2_13 : w13.cell? ⟨Bx, 2, none⟩ = some (.int .i64 Cx) := by simp [World.cell?, NBx13.out]
                  have hfa := Lib.hid (lawFault_any (some ⟨gx, 0, none⟩) lx.length capx Tx Cx lx w13 hl13 rfl FX13.out)
                  rw [HF.out] at hfa
                  go_wp2_with fail
                  refine (hfa.out).mono ?_
                  rintro e w14 ⟨rfl, hb⟩
                  have HB14 := Lib.hid ((HB13.out).trans (hb.mono (HB13.out).size))
                  have NBi14 := Lib.hid ((hb.block Bi (Array.getElem?_eq_some_iff.1 NBi13.out).1).trans NBi13.out)
                  have NBt14 := Lib.hid ((hb.block Bt (Array.getElem?_eq_some_iff.1 NBt13.out).1).trans NBt13.out)
                  have NBp214 := Lib.hid ((hb.block Bp2 (Array.getElem?_eq_some_iff.1 NBp213.out).1).trans NBp213.out)
                  have NBx14 := Lib.hid ((hb.block Bx (Array.getElem?_eq_some_iff.1 NBx13.out).1).trans NBx13.out)
                  have FX14 := Lib.hid ((FX13.out).keep hb (Nat.le_refl _))
                  have FV14 := Lib.hid ((FV13.out).keep hb (Nat.le_refl _))
                  clear HB13 NBi13 NBt13 NBp213 NBx13 cBi0_13 cBi1_13 cBi2_13 cBt0_13 cBt1_13 cBp20_13 cBp21_13 cBx0_13 cBx1_13 cBx2_13 FX13 FV13 hb hfa
                  have cBi0_14 : w14.cell? ⟨Bi, 0, none⟩ = some (.slice (some ⟨b, o, none⟩) l.length cap) := by simp [World.cell?, NBi14.out]
                  have cBi1_14 : w14.cell? ⟨Bi, 1, none⟩ = some (.int .i64 T) := by simp [World.cell?, NBi14.out]
                  have cBi2_14 : w14.cell? ⟨Bi, 2, none⟩ = some (.int .i64 C) := by simp [World.cell?, NBi14.out]
                  have cBt0_14 : w14.cell? ⟨Bt, 0, none⟩ = some (.slice At ts.length tcap) := by simp [World.cell?, NBt14.out]
                  have cBt1_14 : w14.cell? ⟨Bt, 1, none⟩ = some (.slice Ac cs.length ccap) := by simp [World.cell?, NBt14.out]
                  have cBp20_14 : w14.cell? ⟨Bp2, 0, none⟩ = some (.slice Ap tps.length tp) := by simp [World.cell?, NBp214.out]
                  have cBp21_14 : w14.cell? ⟨Bp2, 1, none⟩ = some (.slice Bp cps.length cp) := by simp [World.cell?, NBp214.out]
                  have cBx0_14 : w14.cell? ⟨Bx, 0, none⟩ = some (.slice (some ⟨gx, 0, none⟩) lx.length capx) := by simp [World.cell?, NBx14.out]
                  have cBx1_14 : w14.cell? ⟨Bx, 1, none⟩ = some (.int .i64 Tx) := by simp [World.cell?, NBx14.out]
                  have cBx2_14 : w14.cell? ⟨Bx, 2, none⟩ = some (.int .i64 Cx) := by simp [World.cell?, NBx14.out]
                  go_wp2_with fail
                  refine (awake_any _).mono ?_
                  rintro e w15 ⟨rfl, hb⟩
                  have HB15 := Lib.hid ((HB14.out).trans (hb.mono (HB14.out).size))
                  have NBi15 := Lib.hid ((hb.block Bi (Array.getElem?_eq_some_iff.1 NBi14.out).1).trans NBi14.out)
                  have NBt15 := Lib.hid ((hb.block Bt (Array.getElem?_eq_some_iff.1 NBt14.out).1).trans NBt14.out)
                  have NBp215 := Lib.hid ((hb.block Bp2 (Array.getElem?_eq_some_iff.1 NBp214.out).1).trans NBp214.out)
                  have NBx15 := Lib.hid ((hb.block Bx (Array.getElem?_eq_some_iff.1 NBx14.out).1).trans NBx14.out)
                  have FX15 := Lib.hid ((FX14.out).keep hb (Nat.le_refl _))
                  have FV15 := Lib.hid ((FV14.out).keep hb (Nat.le_refl _))
                  clear HB14 NBi14 NBt14 NBp214 NBx14 cBi0_14 cBi1_14 cBi2_14 cBt0_14 cBt1_14 cBp20_14 cBp21_14 cBx0_14 cBx1_14 cBx2_14 FX14 FV14 hb 
                  have cBi0_15 : w15.cell? ⟨Bi, 0, none⟩ = some (.slice (some ⟨b, o, none⟩) l.length cap) := by simp [World.cell?, NBi15.out]
                  have cBi1_15 : w15.cell? ⟨Bi, 1, none⟩ = some (.int .i64 T) := by simp [World.cell?, NBi15.out]
                  have cBi2_15 : w15.cell? ⟨Bi, 2, none⟩ = some (.int .i64 C) := by simp [World.cell?, NBi15.out]
                  have cBt0_15 : w15.cell? ⟨Bt, 0, none⟩ = some (.slice At ts.length tcap) := by simp [World.cell?, NBt15.out]
                  have cBt1_15 : w15.cell? ⟨Bt, 1, none⟩ = some (.slice Ac cs.length ccap) := by simp [World.cell?, NBt15.out]
                  have cBp20_15 : w15.cell? ⟨Bp2, 0, none⟩ = some (.slice Ap tps.length tp) := by simp [World.cell?, NBp215.out]
                  have cBp21_15 : w15.cell? ⟨Bp2, 1, none⟩ = some (.slice Bp cps.length cp) := by simp [World.cell?, NBp215.out]
                  have cBx0_15 : w15.cell? ⟨Bx, 0, none⟩ = some (.slice (some ⟨gx, 0, none⟩) lx.length capx) := by simp [World.cell?, NBx15.out]
                  have cBx1_15 : w15.cell? ⟨Bx, 1, none⟩ = some (.int .i64 Tx) := by simp [World.cell?, NBx15.out]
                  have cBx2_15 : w15.cell? ⟨Bx, 2, none⟩ = some (.int .i64 Cx) := by simp [World.cell?, NBx15.out]
                  go_wp2_with fail
                  go_ret
                  exact ⟨rfl, HB15.out⟩
                · have HOX := Lib.hid hokx
                  have HTB := Lib.hid htb
                  have hnx12 := hokx.len
                  have hposx := hokx.pos
                  have hftx := Lib.hid (faultL_zero.2 hokx)
                  have hxl : xs.length ≤ 1000000 := by have := HLEN.out; omega
                  have HCN := Lib.hid (cutB_no (ts := ts) (cs := cs) (truthB_can htb))
                  clear hokx htb
                  go_wp2_with fail
                  have hbx : Below w12.heap.size w12 (w12.alloc (.cells #[.slice (some ⟨gx, 0, none⟩) lx.length capx, .int .i64 Tx, .int .i64 Cx] 24)) := (Below.refl _ _).alloc (Nat.le_refl _) _
                  have hnx := Go.heap_alloc_new w12 (.cells #[.slice (some ⟨gx, 0, none⟩) lx.length capx, .int .i64 Tx, .int .i64 Cx] 24)
                  obtain ⟨Bx, hBx⟩ : ∃ x, w12.heap.size = x := ⟨_, rfl⟩
                  have oBx : w.heap.size ≤ Bx := by have := HB12.out.size; omega
                  have oBiBx : Bi < Bx := by have := (Array.getElem?_eq_some_iff.1 NBi12.out).1; omega
                  have oBtBx : Bt < Bx := by have := (Array.getElem?_eq_some_iff.1 NBt12.out).1; omega
                  have oBp2Bx : Bp2 < Bx := by have := (Array.getElem?_eq_some_iff.1 NBp212.out).1; omega
                  generalize hwx : w12.alloc (.cells #[.slice (some ⟨gx, 0, none⟩) lx.length capx, .int .i64 Tx, .int .i64 Cx] 24) = w13 at hbx hnx ⊢
                  have HB13 := Lib.hid ((HB12.out).trans (hbx.mono (HB12.out).size))
                  have NBi13 := Lib.hid ((hbx.block Bi (Array.getElem?_eq_some_iff.1 NBi12.out).1).trans NBi12.out)
                  have NBt13 := Lib.hid ((hbx.block Bt (Array.getElem?_eq_some_iff.1 NBt12.out).1).trans NBt12.out)
                  have NBp213 := Lib.hid ((hbx.block Bp2 (Array.getElem?_eq_some_iff.1 NBp212.out).1).trans NBp212.out)
                  have FX13 := Lib.hid ((FX12.out).keep hbx (Nat.le_refl _))
                  have FV13 := Lib.hid ((FV12.out).keep hbx (Nat.le_refl _))
                  clear HB12 NBi12 NBt12 NBp212 cBi0_12 cBi1_12 cBi2_12 cBt0_12 cBt1_12 cBp20_12 cBp21_12 FX12 FV12 hbx 
                  have cBi0_13 : w13.cell? ⟨Bi, 0, none⟩ = some (.slice (some ⟨b, o, none⟩) l.length cap) := by simp [World.cell?, NBi13.out]
                  have cBi1_13 : w13.cell? ⟨Bi, 1, none⟩ = some (.int .i64 T) := by simp [World.cell?, NBi13.out]
                  have cBi2_13 : w13.cell? ⟨Bi, 2, none⟩ = some (.int .i64 C) := by simp [World.cell?, NBi13.out]
                  have cBt0_13 : w13.cell? ⟨Bt, 0, none⟩ = some (.slice At ts.length tcap) := by simp [World.cell?, NBt13.out]
                  have cBt1_13 : w13.cell? ⟨Bt, 1, none⟩ = some (.slice Ac cs.length ccap) := by simp [World.cell?, NBt13.out]
                  have cBp20_13 : w13.cell? ⟨Bp2, 0, none⟩ = some (.slice Ap tps.length tp) := by simp [World.cell?, NBp213.out]
                  have cBp21_13 : w13.cell? ⟨Bp2, 1, none⟩ = some (.slice Bp cps.length cp) := by simp [World.cell?, NBp213.out]
                  rw [hBx] at hnx ⊢
                  have NBx13 := Lib.hid hnx
                  clear hnx hwx hBx
                  have cBx0_13 : w13.cell? ⟨Bx, 0, none⟩ = some (.slice (some ⟨gx, 0, none⟩) lx.length capx) := by simp [World.cell?, NBx13.out]
                  have cBx1_13 : w13.cell? ⟨Bx, 1, none⟩ = some (.int .i64 Tx) := by simp [World.cell?, NBx13.out]
                  have cBx2_13 : w13.cell? ⟨Bx, 2, none⟩ = some (.int .i64 Cx) := by simp [World.cell?, NBx13.out]
                  have hfa := Lib.hid (lawFault_any (some ⟨gx, 0, none⟩) lx.length capx Tx Cx lx w13 (by omega) rfl FX13.out)
                  rw [hftx.out] at hfa
                  go_wp2_with fail
                  refine (hfa.out).mono ?_
                  rintro e w14 ⟨rfl, hb⟩
                  have HB14 := Lib.hid ((HB13.out).trans (hb.mono (HB13.out).size))
                  have NBi14 := Lib.hid ((hb.block Bi (Array.getElem?_eq_some_iff.1 NBi13.out).1).trans NBi13.out)
                  have NBt14 := Lib.hid ((hb.block Bt (Array.getElem?_eq_some_iff.1 NBt13.out).1).trans NBt13.out)
                  have NBp214 := Lib.hid ((hb.block Bp2 (Array.getElem?_eq_some_iff.1 NBp213.out).1).trans NBp213.out)
                  have NBx14 := Lib.hid ((hb.block Bx (Array.getElem?_eq_some_iff.1 NBx13.out).1).trans NBx13.out)
                  have FX14 := Lib.hid ((FX13.out).keep hb (Nat.le_refl _))
                  have FV14 := Lib.hid ((FV13.out).keep hb (Nat.le_refl _))
                  clear HB13 NBi13 NBt13 NBp213 NBx13 cBi0_13 cBi1_13 cBi2_13 cBt0_13 cBt1_13 cBp20_13 cBp21_13 cBx0_13 cBx1_13 cBx2_13 FX13 FV13 hb hfa
                  have cBi0_14 : w14.cell? ⟨Bi, 0, none⟩ = some (.slice (some ⟨b, o, none⟩) l.length cap) := by simp [World.cell?, NBi14.out]
                  have cBi1_14 : w14.cell? ⟨Bi, 1, none⟩ = some (.int .i64 T) := by simp [World.cell?, NBi14.out]
                  have cBi2_14 : w14.cell? ⟨Bi, 2, none⟩ = some (.int .i64 C) := by simp [World.cell?, NBi14.out]
                  have cBt0_14 : w14.cell? ⟨Bt, 0, none⟩ = some (.slice At ts.length tcap) := by simp [World.cell?, NBt14.out]
                  have cBt1_14 : w14.cell? ⟨Bt, 1, none⟩ = some (.slice Ac cs.length ccap) := by simp [World.cell?, NBt14.out]
                  have cBp20_14 : w14.cell? ⟨Bp2, 0, none⟩ = some (.slice Ap tps.length tp) := by simp [World.cell?, NBp214.out]
                  have cBp21_14 : w14.cell? ⟨Bp2, 1, none⟩ = some (.slice Bp cps.length cp) := by simp [World.cell?, NBp214.out]
                  have cBx0_14 : w14.cell? ⟨Bx, 0, none⟩ = some (.slice (some ⟨gx, 0, none⟩) lx.length capx) := by simp [World.cell?, NBx14.out]
                  have cBx1_14 : w14.cell? ⟨Bx, 1, none⟩ = some (.int .i64 Tx) := by simp [World.cell?, NBx14.out]
                  have cBx2_14 : w14.cell? ⟨Bx, 2, none⟩ = some (.int .i64 Cx) := by simp [World.cell?, NBx14.out]
                  have hnil : Av = none → cv = 0 := fun h => by
                    obtain ⟨A2, c2, he2, hc2⟩ := FV14.out
                    cases he2
                    rcases hc2 with hc2 | ⟨b2, o2, h2, _⟩
                    · have := HLEN.out; rw [hc2] at this; simp at this; rw [this] at hposx; simp at hposx
                    · rw [h] at h2; cases h2
                  have S0 := Lib.hid (⟨cBx0_14, cBx1_14, cBx2_14, cBt0_14, cBt1_14⟩ : w14.cell? ⟨Bx, 0, none⟩ = some (.slice (some ⟨gx, 0, none⟩) lx.length capx) ∧ w14.cell? ⟨Bx, 1, none⟩ = some (.int .i64 Tx) ∧ w14.cell? ⟨Bx, 2, none⟩ = some (.int .i64 Cx) ∧ w14.cell? ⟨Bt, 0, none⟩ = some (.slice At ts.length tcap) ∧ w14.cell? ⟨Bt, 1, none⟩ = some (.slice Ac cs.length ccap))
                  have hwr : IntKind.i64.wrap f = f := IntWalk.i64_in _ (by omega)
                  have hft6 : e.tmod 6 = f := by rw [← hf]; exact Int.tmod_eq_emod_of_nonneg (by omega)
                  go_wp2_with fail
                  refine wp_region_held_drew (S := fun X => X.cell? ⟨Bx, 0, none⟩ = some (.slice (some ⟨gx, 0, none⟩) lx.length capx) ∧ X.cell? ⟨Bx, 1, none⟩ = some (.int .i64 Tx) ∧ X.cell? ⟨Bx, 2, none⟩ = some (.int .i64 Cx) ∧ X.cell? ⟨Bt, 0, none⟩ = some (.slice At ts.length tcap) ∧ X.cell? ⟨Bt, 1, none⟩ = some (.slice Ac cs.length ccap)) (by kernel_rfl) (S0.out) (fun hS0 => ?_)
                  refine wpAnyH_take (i := 0) (oi := { dst := some 126, op := Op.load 24 (Operand.tmp 16), type := 24, pos := "outright.go:168", after := #[], guard := none }) (v := ?_) rfl (by kernel_rfl) (by kernel_rfl) (by kernel_rfl) (fun _ _ _ h => h) (Or.inl ⟨by rfl, ?_⟩) hS0 ?_
                  rotate_left
                  · intro X hX
                    obtain ⟨x0, x1, x2, x3, x4⟩ := hX
                    go_simp
                    try with_reducible rfl
                  simp only [Act.put, List.setIfInBounds_toArray, List.set_cons_zero, List.set_cons_succ, Array.toArray_toList]
                  refine wpAnyH_take (i := 2) (oi := { dst := some 128, op := Op.move (Operand.tmp 9), type := 3, pos := "outright.go:168", after := #[], guard := none }) (v := ?_) rfl (by kernel_rfl) (by kernel_rfl) (by kernel_rfl) (fun _ _ _ h => h) (Or.inl ⟨by rfl, ?_⟩) hS0 ?_
                  rotate_left
                  · intro X hX
                    obtain ⟨x0, x1, x2, x3, x4⟩ := hX
                    go_simp
                    try with_reducible rfl
                  simp only [Act.put, List.setIfInBounds_toArray, List.set_cons_zero, List.set_cons_succ, Array.toArray_toList]
                  refine wpAnyH_take (i := 3) (oi := { dst := some 129, op := Op.binOp BinOp.rem 3 (Operand.tmp 128) (Operand.const (Value.int IntKind.i64 6)) 3, type := 3, pos := "outright.go:168", after := #[{ on := 2, ground := Ground.data }], guard := none }) (v := ?_) rfl (by kernel_rfl) (by kernel_rfl) (by kernel_rfl) (fun _ _ _ h => h) (Or.inl ⟨by rfl, ?_⟩) hS0 ?_
                  rotate_left
                  · intro X hX
                    obtain ⟨x0, x1, x2, x3, x4⟩ := hX
                    go_simp
                    try with_reducible rfl
                  simp only [Act.put, List.setIfInBounds_toArray, List.set_cons_zero, List.set_cons_succ, Array.toArray_toList]
                  refine wpAnyH_take (i := 4) (oi := { dst := some 130, op := Op.move (Operand.tmp 17), type := 25, pos := "outright.go:168", after := #[], guard := none }) (v := ?_) rfl (by kernel_rfl) (by kernel_rfl) (by kernel_rfl) (fun _ _ _ h => h) (Or.inl ⟨by rfl, ?_⟩) hS0 ?_
                  rotate_left
                  · intro X hX
                    obtain ⟨x0, x1, x2, x3, x4⟩ := hX
                    go_simp
                    try with_reducible rfl
                  simp only [Act.put, List.setIfInBounds_toArray, List.set_cons_zero, List.set_cons_succ, Array.toArray_toList]
                  refine wpAnyH_ready (rs := [1]) (by kernel_rfl) (by simp) (AllReadyH.cons (o := { dst := some 127, op := Op.call { callee := Callee.value (Operand.func 22), args := #[Operand.tmp 126], argTypes := #[24] }, type := 33, pos := "outright.go:168", after := #[{ on := 0, ground := Ground.data }], guard := none }) rfl (fun K hK => ?_) AllReadyH.nil)
                  go_simp
                  refine (net_any _ capx Tx Cx lx _ (FX14.out.keep ((Below.refl _ w14).drew) (Nat.le_refl _)) (by omega)).mono ?_
                  rintro e' y1 ⟨Aqa, cqa, rfl, hq, hqn, hb⟩
                  have hY1 := (Below.refl _ w14).drew.trans hb
                  have HQa := Lib.hid hq
                  clear hq hqn
                  clear hb
                  go_wp2_with fail
                  refine hK.out _ _ (keepS5 hY1 S0.out) (fun hS1 => ?_)
                  clear hS0 hK K
                  refine wpAnyH_ready (rs := [5]) (by kernel_rfl) (by simp) (AllReadyH.cons (o := { dst := some 131, op := Op.call { callee := Callee.value (Operand.func 23), args := #[Operand.tmp 130], argTypes := #[25] }, type := 25, pos := "outright.go:168", after := #[{ on := 4, ground := Ground.data }, { on := 1, ground := Ground.chain }], guard := none }) rfl (fun K hK => ?_) AllReadyH.nil)
                  go_simp
                  refine (list_any Av cv xs _ hnil (FV14.out.keep hY1 (Nat.le_refl _)) hxl).mono ?_
                  rintro e' y2 ⟨vl, rfl, hvl, hb⟩
                  have hY2 := hY1.trans (hb.mono hY1.size)
                  have HVL := Lib.hid hvl
                  clear hvl
                  have HZ := hb
                  clear hb
                  go_wp2_with fail
                  refine hK.out _ _ (keepS5 hY2 S0.out) (fun hS2 => ?_)
                  clear hS1 hK K
                  refine wpAnyH_ready (rs := [6]) (by kernel_rfl) (by simp) (AllReadyH.cons (o := { dst := some 132, op := Op.call { callee := Callee.value (Operand.func 21), args := #[Operand.tmp 127, Operand.tmp 129, Operand.tmp 131], argTypes := #[33, 3, 25] }, type := 4, pos := "outright.go:168", after := #[{ on := 1, ground := Ground.data }, { on := 3, ground := Ground.data }, { on := 5, ground := Ground.data }, { on := 5, ground := Ground.chain }], guard := none }) rfl (fun K hK => ?_) AllReadyH.nil)
                  go_simp
                  have hpt := proveTruth_any _ lx.length cqa Tx Cx f lx vl xs y2 (by omega) rfl (HQa.out.keep HZ (Nat.le_refl _)) HVL.out
                  rw [HTB.out] at hpt
                  refine hpt.mono ?_
                  rintro e' y3 ⟨rfl, hb⟩
                  have hY3 := hY2.trans (hb.mono hY2.size)
                  clear hb hpt HZ
                  go_wp2_with fail
                  refine hK.out _ _ (keepS5 hY3 S0.out) (fun hS3 => ?_)
                  clear hS2 hK K
                  refine wpAnyH_take (i := 7) (oi := { dst := some 133, op := Op.move (Operand.tmp 132), type := 4, pos := "outright.go:168", after := #[{ on := 6, ground := Ground.data }, { on := 6, ground := Ground.chain }], guard := none }) (v := ?_) rfl (by kernel_rfl) (by kernel_rfl) (by kernel_rfl) (fun _ _ _ h => h) (Or.inl ⟨by rfl, ?_⟩) hS3 ?_
                  rotate_left
                  · intro X hX
                    obtain ⟨x0, x1, x2, x3, x4⟩ := hX
                    go_simp
                    try with_reducible rfl
                  simp only [Act.put, List.setIfInBounds_toArray, List.set_cons_zero, List.set_cons_succ, Array.toArray_toList]
                  refine wpAnyH_take (i := 8) (oi := { dst := some 134, op := Op.load 24 (Operand.tmp 16), type := 24, pos := "outright.go:168", after := #[{ on := 7, ground := Ground.guard }], guard := some (7, true) }) (v := ?_) rfl (by kernel_rfl) (by kernel_rfl) (by kernel_rfl) (fun _ _ _ h => h) (Or.inl ⟨by rfl, ?_⟩) hS3 ?_
                  rotate_left
                  · intro X hX
                    obtain ⟨x0, x1, x2, x3, x4⟩ := hX
                    go_simp
                    try with_reducible rfl
                  simp only [Act.put, List.setIfInBounds_toArray, List.set_cons_zero, List.set_cons_succ, Array.toArray_toList]
                  refine wpAnyH_take (i := 10) (oi := { dst := some 136, op := Op.move (Operand.tmp 9), type := 3, pos := "outright.go:168", after := #[{ on := 7, ground := Ground.guard }], guard := some (7, true) }) (v := ?_) rfl (by kernel_rfl) (by kernel_rfl) (by kernel_rfl) (fun _ _ _ h => h) (Or.inl ⟨by rfl, ?_⟩) hS3 ?_
                  rotate_left
                  · intro X hX
                    obtain ⟨x0, x1, x2, x3, x4⟩ := hX
                    go_simp
                    try with_reducible rfl
                  simp only [Act.put, List.setIfInBounds_toArray, List.set_cons_zero, List.set_cons_succ, Array.toArray_toList]
                  refine wpAnyH_take (i := 11) (oi := { dst := some 137, op := Op.binOp BinOp.rem 3 (Operand.tmp 136) (Operand.const (Value.int IntKind.i64 6)) 3, type := 3, pos := "outright.go:168", after := #[{ on := 10, ground := Ground.data }, { on := 7, ground := Ground.guard }], guard := some (7, true) }) (v := ?_) rfl (by kernel_rfl) (by kernel_rfl) (by kernel_rfl) (fun _ _ _ h => h) (Or.inl ⟨by rfl, ?_⟩) hS3 ?_
                  rotate_left
                  · intro X hX
                    obtain ⟨x0, x1, x2, x3, x4⟩ := hX
                    go_simp
                    try with_reducible rfl
                  simp only [Act.put, List.setIfInBounds_toArray, List.set_cons_zero, List.set_cons_succ, Array.toArray_toList]
                  refine wpAnyH_take (i := 12) (oi := { dst := some 138, op := Op.load 27 (Operand.tmp 7), type := 27, pos := "outright.go:168", after := #[{ on := 7, ground := Ground.guard }], guard := some (7, true) }) (v := ?_) rfl (by kernel_rfl) (by kernel_rfl) (by kernel_rfl) (fun _ _ _ h => h) (Or.inl ⟨by rfl, ?_⟩) hS3 ?_
                  rotate_left
                  · intro X hX
                    obtain ⟨x0, x1, x2, x3, x4⟩ := hX
                    go_simp
                    try with_reducible rfl
                  simp only [Act.put, List.setIfInBounds_toArray, List.set_cons_zero, List.set_cons_succ, Array.toArray_toList]
                  refine wpAnyH_ready (rs := [9]) (by kernel_rfl) (by simp) (AllReadyH.cons (o := { dst := some 135, op := Op.call { callee := Callee.value (Operand.func 22), args := #[Operand.tmp 134], argTypes := #[24] }, type := 33, pos := "outright.go:168", after := #[{ on := 8, ground := Ground.data }, { on := 7, ground := Ground.chain }, { on := 7, ground := Ground.guard }], guard := some (7, true) }) rfl (fun K hK => ?_) AllReadyH.nil)
                  go_simp
                  refine (net_any _ capx Tx Cx lx _ (FX14.out.keep hY3 (Nat.le_refl _)) (by omega)).mono ?_
                  rintro e' y4 ⟨Aqb, cqb, rfl, hq, hqn, hb⟩
                  have hY4 := hY3.trans (hb.mono hY3.size)
                  have HQb := Lib.hid hq
                  clear hq hqn
                  clear hb
                  go_wp2_with fail
                  refine hK.out _ _ (keepS5 hY4 S0.out) (fun hS4 => ?_)
                  clear hS3 hK K
                  refine wpAnyH_ready (rs := [13]) (by kernel_rfl) (by simp) (AllReadyH.cons (o := { dst := some 139, op := Op.call { callee := Callee.value (Operand.func 25), args := #[Operand.tmp 138], argTypes := #[27] }, type := 37, pos := "outright.go:168", after := #[{ on := 12, ground := Ground.data }, { on := 9, ground := Ground.chain }, { on := 7, ground := Ground.guard }], guard := some (7, true) }) rfl (fun K hK => ?_) AllReadyH.nil)
                  go_simp
                  refine (cut_any At Ac tcap ccap ts cs _ hNt hNc (HT.out.keep (HB14.out.trans (hY4.mono HB14.out.size)) (Nat.le_refl _)) (HC.out.keep (HB14.out.trans (hY4.mono HB14.out.size)) (Nat.le_refl _)) (by omega) (by omega)).mono ?_
                  rintro e' y5 ⟨u1, u2, rfl, hu1, hu2, hb⟩
                  have hY5 := hY4.trans (hb.mono hY4.size)
                  have HU1 := Lib.hid hu1
                  have HU2 := Lib.hid hu2
                  clear hu1 hu2
                  have HZ := hb
                  clear hb
                  go_wp2_with fail
                  refine hK.out _ _ (keepS5 hY5 S0.out) (fun hS5 => ?_)
                  clear hS4 hK K
                  refine wpAnyH_ready (rs := [14]) (by kernel_rfl) (by simp) (AllReadyH.cons (o := { dst := some 140, op := Op.call { callee := Callee.value (Operand.func 24), args := #[Operand.tmp 135, Operand.tmp 137, Operand.tmp 139], argTypes := #[33, 3, 37] }, type := 4, pos := "outright.go:168", after := #[{ on := 9, ground := Ground.data }, { on := 11, ground := Ground.data }, { on := 13, ground := Ground.data }, { on := 13, ground := Ground.chain }, { on := 7, ground := Ground.guard }], guard := some (7, true) }) rfl (fun K hK => ?_) AllReadyH.nil)
                  go_simp
                  have hpc := proveCut_any _ lx.length cqb Tx Cx f lx u1 u2 ts cs y5 (by omega) rfl (HQb.out.keep HZ (Nat.le_refl _)) HU1.out HU2.out (by omega) (by omega)
                  rw [HCN.out] at hpc
                  refine hpc.mono ?_
                  rintro e' y6 ⟨rfl, hb⟩
                  have hY6 := hY5.trans (hb.mono hY5.size)
                  clear hb hpc
                  go_wp2_with fail
                  refine hK.out _ _ (keepS5 hY6 S0.out) (fun hS6 => ?_)
                  clear hS5 hK K
                  refine wpAnyH_take (i := 15) (oi := { dst := some 141, op := Op.unOp UnOp.not 4 (Operand.tmp 140), type := 4, pos := "outright.go:168", after := #[{ on := 14, ground := Ground.data }, { on := 7, ground := Ground.guard }], guard := some (7, true) }) (v := ?_) rfl (by kernel_rfl) (by kernel_rfl) (by kernel_rfl) (fun _ _ _ h => h) (Or.inl ⟨by rfl, ?_⟩) hS6 ?_
                  rotate_left
                  · intro X hX
                    obtain ⟨x0, x1, x2, x3, x4⟩ := hX
                    go_simp
                    try with_reducible rfl
                  simp only [Act.put, List.setIfInBounds_toArray, List.set_cons_zero, List.set_cons_succ, Array.toArray_toList]
                  refine wpAnyH_take (i := 16) (oi := { dst := some 142, op := Op.pick (Operand.tmp 133) (Operand.tmp 141) (Operand.const (Value.bool false)), type := 4, pos := "outright.go:168", after := #[{ on := 7, ground := Ground.data }, { on := 15, ground := Ground.data }], guard := none }) (v := ?_) rfl (by kernel_rfl) (by kernel_rfl) (by kernel_rfl) (fun _ _ _ h => h) (Or.inl ⟨by rfl, ?_⟩) hS6 ?_
                  rotate_left
                  · intro X hX
                    obtain ⟨x0, x1, x2, x3, x4⟩ := hX
                    go_simp
                    try with_reducible rfl
                  simp only [Act.put, List.setIfInBounds_toArray, List.set_cons_zero, List.set_cons_succ, Array.toArray_toList]
                  refine wpAnyH_take (i := 17) (oi := { dst := some 143, op := Op.move (Operand.tmp 142), type := 4, pos := "outright.go:168", after := #[{ on := 16, ground := Ground.data }, { on := 14, ground := Ground.chain }], guard := none }) (v := ?_) rfl (by kernel_rfl) (by kernel_rfl) (by kernel_rfl) (fun _ _ _ h => h) (Or.inl ⟨by rfl, ?_⟩) hS6 ?_
                  rotate_left
                  · intro X hX
                    obtain ⟨x0, x1, x2, x3, x4⟩ := hX
                    go_simp
                    try with_reducible rfl
                  simp only [Act.put, List.setIfInBounds_toArray, List.set_cons_zero, List.set_cons_succ, Array.toArray_toList]
                  refine wpAnyH_ready (rs := [18]) (by kernel_rfl) (by simp) (AllReadyH.cons (o := { dst := some 144, op := Op.call { callee := Callee.value (Operand.func 20), args := #[], argTypes := #[] }, type := 4, pos := "outright.go:168", after := #[{ on := 17, ground := Ground.chain }, { on := 17, ground := Ground.guard }], guard := some (17, true) }) rfl (fun K hK => ?_) AllReadyH.nil)
                  go_simp
                  refine (awake_any _).mono ?_
                  rintro e' y7 ⟨rfl, hb⟩
                  have hY7 := hY6.trans (hb.mono hY6.size)
                  clear hb
                  go_wp2_with fail
                  refine hK.out _ _ (keepS5 hY7 S0.out) (fun hS7 => ?_)
                  clear hS6 hK K
                  refine wpAnyH_take (i := 19) (oi := { dst := some 145, op := Op.pick (Operand.tmp 143) (Operand.tmp 144) (Operand.const (Value.bool false)), type := 4, pos := "outright.go:168", after := #[{ on := 17, ground := Ground.data }, { on := 18, ground := Ground.data }], guard := none }) (v := ?_) rfl (by kernel_rfl) (by kernel_rfl) (by kernel_rfl) (fun _ _ _ h => h) (Or.inl ⟨by rfl, ?_⟩) hS7 ?_
                  rotate_left
                  · intro X hX
                    obtain ⟨x0, x1, x2, x3, x4⟩ := hX
                    go_simp
                    try with_reducible rfl
                  simp only [Act.put, List.setIfInBounds_toArray, List.set_cons_zero, List.set_cons_succ, Array.toArray_toList]
                  refine wpAnyH_ready (rs := [20]) (by kernel_rfl) (by simp) (AllReadyH.cons (o := { dst := some 8, op := Op.assign (Operand.tmp 145), type := 4, pos := "outright.go:168", after := #[{ on := 19, ground := Ground.data }, { on := 18, ground := Ground.chain }, { on := 0, ground := Ground.phase }, { on := 1, ground := Ground.phase }, { on := 2, ground := Ground.phase }, { on := 3, ground := Ground.phase }, { on := 4, ground := Ground.phase }, { on := 5, ground := Ground.phase }, { on := 6, ground := Ground.phase }, { on := 7, ground := Ground.phase }, { on := 8, ground := Ground.phase }, { on := 9, ground := Ground.phase }, { on := 10, ground := Ground.phase }, { on := 11, ground := Ground.phase }, { on := 12, ground := Ground.phase }, { on := 13, ground := Ground.phase }, { on := 14, ground := Ground.phase }, { on := 15, ground := Ground.phase }, { on := 16, ground := Ground.phase }, { on := 17, ground := Ground.phase }, { on := 18, ground := Ground.phase }, { on := 19, ground := Ground.phase }], guard := none }) rfl (fun K hK => ?_) AllReadyH.nil)
                  go_simp
                  refine hK.out _ _ (hS7) (fun hS8 => ?_)
                  clear hS7 hK K
                  refine wpAnyH_done (by kernel_rfl) ?_ _
                  clear hS8
                  have HBE := Lib.hid (HB14.out.trans (hY7.mono HB14.out.size))
                  go_wp2_with fail
                  go_ret
                  exact ⟨rfl, HBE.out⟩
            · clear HWI HWE
              go_upto_region 12 with fail
              have S0 := Lib.hid (⟨cBi0_10, cBi1_10, cBi2_10, cBp20_10, cBp21_10⟩ : w10.cell? ⟨Bi, 0, none⟩ = some (.slice (some ⟨b, o, none⟩) l.length cap) ∧ w10.cell? ⟨Bi, 1, none⟩ = some (.int .i64 T) ∧ w10.cell? ⟨Bi, 2, none⟩ = some (.int .i64 C) ∧ w10.cell? ⟨Bp2, 0, none⟩ = some (.slice Ap tps.length tp) ∧ w10.cell? ⟨Bp2, 1, none⟩ = some (.slice Bp cps.length cp))
              go_cut [114] from 101 to 114 (fun s wc => s = .bool false ∧ Below w10.heap.size w10 wc)
              case first =>
                refine wp_region_held_drew (S := fun X => X.cell? ⟨Bi, 0, none⟩ = some (.slice (some ⟨b, o, none⟩) l.length cap) ∧ X.cell? ⟨Bi, 1, none⟩ = some (.int .i64 T) ∧ X.cell? ⟨Bi, 2, none⟩ = some (.int .i64 C) ∧ X.cell? ⟨Bp2, 0, none⟩ = some (.slice Ap tps.length tp) ∧ X.cell? ⟨Bp2, 1, none⟩ = some (.slice Bp cps.length cp)) (by kernel_rfl) (S0.out) (fun hS0 => ?_)
                refine wpAnyH_take (i := 0) (oi := { dst := some 101, op := Op.move (Operand.tmp 11), type := 39, pos := "outright.go:161", after := #[], guard := none }) (v := ?_) rfl (by kernel_rfl) (by kernel_rfl) (by kernel_rfl) (fun _ _ _ h => h) (Or.inl ⟨by rfl, ?_⟩) hS0 ?_
                rotate_left
                · intro X hX
                  obtain ⟨x0, x1, x2, x3, x4⟩ := hX
                  go_simp
                  try with_reducible rfl
                simp only [Act.put, List.setIfInBounds_toArray, List.set_cons_zero, List.set_cons_succ, Array.toArray_toList]
                refine wpAnyH_take (i := 1) (oi := { dst := some 102, op := Op.binOp BinOp.neq 39 (Operand.tmp 101) (Operand.const (Value.int IntKind.i64 9)) 39, type := 4, pos := "outright.go:161", after := #[{ on := 0, ground := Ground.data }], guard := none }) (v := ?_) rfl (by kernel_rfl) (by kernel_rfl) (by kernel_rfl) (fun _ _ _ h => h) (Or.inl ⟨by rfl, ?_⟩) hS0 ?_
                rotate_left
                · intro X hX
                  obtain ⟨x0, x1, x2, x3, x4⟩ := hX
                  go_simp
                  try with_reducible rfl
                simp only [Act.put, List.setIfInBounds_toArray, List.set_cons_zero, List.set_cons_succ, Array.toArray_toList]
                refine wpAnyH_take (i := 2) (oi := { dst := some 103, op := Op.move (Operand.tmp 102), type := 4, pos := "outright.go:161", after := #[{ on := 1, ground := Ground.data }], guard := none }) (v := ?_) rfl (by kernel_rfl) (by kernel_rfl) (by kernel_rfl) (fun _ _ _ h => h) (Or.inl ⟨by rfl, ?_⟩) hS0 ?_
                rotate_left
                · intro X hX
                  obtain ⟨x0, x1, x2, x3, x4⟩ := hX
                  go_simp
                  try with_reducible rfl
                simp only [Act.put, List.setIfInBounds_toArray, List.set_cons_zero, List.set_cons_succ, Array.toArray_toList]
                refine wpAnyH_take (i := 3) (oi := { dst := some 104, op := Op.move (Operand.tmp 13), type := 39, pos := "outright.go:161", after := #[{ on := 2, ground := Ground.guard }], guard := some (2, false) }) (v := ?_) rfl (by kernel_rfl) (by kernel_rfl) (by kernel_rfl) (fun _ _ _ h => h) (Or.inl ⟨by rfl, ?_⟩) hS0 ?_
                rotate_left
                · intro X hX
                  obtain ⟨x0, x1, x2, x3, x4⟩ := hX
                  go_simp
                  try with_reducible rfl
                simp only [Act.put, List.setIfInBounds_toArray, List.set_cons_zero, List.set_cons_succ, Array.toArray_toList]
                refine wpAnyH_take (i := 4) (oi := { dst := some 105, op := Op.binOp BinOp.neq 39 (Operand.tmp 104) (Operand.const (Value.int IntKind.i64 0)) 39, type := 4, pos := "outright.go:161", after := #[{ on := 3, ground := Ground.data }, { on := 2, ground := Ground.guard }], guard := some (2, false) }) (v := ?_) rfl (by kernel_rfl) (by kernel_rfl) (by kernel_rfl) (fun _ _ _ h => h) (Or.inl ⟨by rfl, ?_⟩) hS0 ?_
                rotate_left
                · intro X hX
                  obtain ⟨x0, x1, x2, x3, x4⟩ := hX
                  go_simp
                  try with_reducible rfl
                simp only [Act.put, List.setIfInBounds_toArray, List.set_cons_zero, List.set_cons_succ, Array.toArray_toList]
                refine wpAnyH_take (i := 5) (oi := { dst := some 106, op := Op.pick (Operand.tmp 103) (Operand.const (Value.bool true)) (Operand.tmp 105), type := 4, pos := "outright.go:161", after := #[{ on := 2, ground := Ground.data }, { on := 4, ground := Ground.data }], guard := none }) (v := ?_) rfl (by kernel_rfl) (by kernel_rfl) (by kernel_rfl) (fun _ _ _ h => h) (Or.inl ⟨by rfl, ?_⟩) hS0 ?_
                rotate_left
                · intro X hX
                  obtain ⟨x0, x1, x2, x3, x4⟩ := hX
                  go_simp
                  try with_reducible rfl
                simp only [Act.put, List.setIfInBounds_toArray, List.set_cons_zero, List.set_cons_succ, Array.toArray_toList]
                refine wpAnyH_take (i := 6) (oi := { dst := some 107, op := Op.move (Operand.tmp 106), type := 4, pos := "outright.go:161", after := #[{ on := 5, ground := Ground.data }, { on := 2, ground := Ground.chain }], guard := none }) (v := ?_) rfl (by kernel_rfl) (by kernel_rfl) (by kernel_rfl) (fun _ _ _ h => h) (Or.inl ⟨by rfl, ?_⟩) hS0 ?_
                rotate_left
                · intro X hX
                  obtain ⟨x0, x1, x2, x3, x4⟩ := hX
                  go_simp
                  try with_reducible rfl
                simp only [Act.put, List.setIfInBounds_toArray, List.set_cons_zero, List.set_cons_succ, Array.toArray_toList]
                refine wpAnyH_take (i := 7) (oi := { dst := some 108, op := Op.load 24 (Operand.tmp 4), type := 24, pos := "outright.go:161", after := #[{ on := 6, ground := Ground.guard }], guard := some (6, false) }) (v := ?_) rfl (by kernel_rfl) (by kernel_rfl) (by kernel_rfl) (fun _ _ _ h => h) (Or.inl ⟨by rfl, ?_⟩) hS0 ?_
                rotate_left
                · intro X hX
                  obtain ⟨x0, x1, x2, x3, x4⟩ := hX
                  go_simp
                  try with_reducible rfl
                simp only [Act.put, List.setIfInBounds_toArray, List.set_cons_zero, List.set_cons_succ, Array.toArray_toList]
                refine wpAnyH_take (i := 9) (oi := { dst := some 110, op := Op.move (Operand.tmp 9), type := 3, pos := "outright.go:161", after := #[{ on := 6, ground := Ground.guard }], guard := some (6, false) }) (v := ?_) rfl (by kernel_rfl) (by kernel_rfl) (by kernel_rfl) (fun _ _ _ h => h) (Or.inl ⟨by rfl, ?_⟩) hS0 ?_
                rotate_left
                · intro X hX
                  obtain ⟨x0, x1, x2, x3, x4⟩ := hX
                  go_simp
                  try with_reducible rfl
                simp only [Act.put, List.setIfInBounds_toArray, List.set_cons_zero, List.set_cons_succ, Array.toArray_toList]
                refine wpAnyH_take (i := 10) (oi := { dst := some 111, op := Op.load 37 (Operand.tmp 12), type := 37, pos := "outright.go:161", after := #[{ on := 6, ground := Ground.guard }], guard := some (6, false) }) (v := ?_) rfl (by kernel_rfl) (by kernel_rfl) (by kernel_rfl) (fun _ _ _ h => h) (Or.inl ⟨by rfl, ?_⟩) hS0 ?_
                rotate_left
                · intro X hX
                  obtain ⟨x0, x1, x2, x3, x4⟩ := hX
                  go_simp
                  try with_reducible rfl
                simp only [Act.put, List.setIfInBounds_toArray, List.set_cons_zero, List.set_cons_succ, Array.toArray_toList]
                refine wpAnyH_ready (rs := [8]) (by kernel_rfl) (by simp) (AllReadyH.cons (o := { dst := some 109, op := Op.call { callee := Callee.value (Operand.func 22), args := #[Operand.tmp 108], argTypes := #[24] }, type := 33, pos := "outright.go:161", after := #[{ on := 7, ground := Ground.data }, { on := 6, ground := Ground.chain }, { on := 6, ground := Ground.guard }], guard := some (6, false) }) rfl (fun K hK => ?_) AllReadyH.nil)
                go_simp
                refine (net_any _ cap T C l _ (HA.out.keep HB10.out.drew (Nat.le_refl _)) (by omega)).mono ?_
                rintro e' y1 ⟨Aqz, cqz, rfl, hq, hqn, hb⟩
                have hY1 := (Below.refl _ w10).drew.trans hb
                have HQZ := Lib.hid hq
                clear hq hqn hb
                go_wp2_with fail
                refine hK.out _ _ (keepS5 hY1 S0.out) (fun hS1 => ?_)
                clear hS0 hK K
                refine wpAnyH_ready (rs := [11]) (by kernel_rfl) (by simp) (AllReadyH.cons (o := { dst := some 112, op := Op.call { callee := Callee.value (Operand.func 24), args := #[Operand.tmp 109, Operand.tmp 110, Operand.tmp 111], argTypes := #[33, 3, 37] }, type := 4, pos := "outright.go:161", after := #[{ on := 8, ground := Ground.data }, { on := 9, ground := Ground.data }, { on := 10, ground := Ground.data }, { on := 8, ground := Ground.chain }, { on := 6, ground := Ground.guard }], guard := some (6, false) }) rfl (fun K hK => ?_) AllReadyH.nil)
                go_simp
                have hpc := proveCut_any _ l.length cqz T C e l _ _ tps cps y1 (by omega) rfl HQZ.out (FP10.out.keep hY1 (Nat.le_refl _)) (FR10.out.keep hY1 (Nat.le_refl _)) (by omega) (by omega)
                rw [HPR.out] at hpc
                refine hpc.mono ?_
                rintro e' y2 ⟨rfl, hb⟩
                have hY2 := hY1.trans (hb.mono hY1.size)
                clear hpc hb
                go_wp2_with fail
                refine hK.out _ _ (keepS5 hY2 S0.out) (fun hS2 => ?_)
                clear hS1 hK K
                refine wpAnyH_take (i := 12) (oi := { dst := some 113, op := Op.unOp UnOp.not 4 (Operand.tmp 112), type := 4, pos := "outright.go:161", after := #[{ on := 11, ground := Ground.data }, { on := 6, ground := Ground.guard }], guard := some (6, false) }) (v := ?_) rfl (by kernel_rfl) (by kernel_rfl) (by kernel_rfl) (fun _ _ _ h => h) (Or.inl ⟨by rfl, ?_⟩) hS2 ?_
                rotate_left
                · intro X hX
                  obtain ⟨x0, x1, x2, x3, x4⟩ := hX
                  go_simp
                  try with_reducible rfl
                simp only [Act.put, List.setIfInBounds_toArray, List.set_cons_zero, List.set_cons_succ, Array.toArray_toList]
                refine wpAnyH_take (i := 13) (oi := { dst := some 114, op := Op.pick (Operand.tmp 107) (Operand.const (Value.bool true)) (Operand.tmp 113), type := 4, pos := "outright.go:161", after := #[{ on := 6, ground := Ground.data }, { on := 12, ground := Ground.data }], guard := none }) (v := ?_) rfl (by kernel_rfl) (by kernel_rfl) (by kernel_rfl) (fun _ _ _ h => h) (Or.inl ⟨by rfl, ?_⟩) hS2 ?_
                rotate_left
                · intro X hX
                  obtain ⟨x0, x1, x2, x3, x4⟩ := hX
                  go_simp
                  try with_reducible rfl
                simp only [Act.put, List.setIfInBounds_toArray, List.set_cons_zero, List.set_cons_succ, Array.toArray_toList]
                refine wpAnyH_done (by kernel_rfl) ?_ _
                clear hS2
                go_wp2
                go_meet
                case rel => exact ⟨rfl, hY2⟩
              case rest =>
                obtain ⟨rfl, hbw⟩ := hcut
                obtain ⟨w11, rfl⟩ : ∃ x : World, x = wc := ⟨_, rfl⟩
                have HB11 := Lib.hid ((HB10.out).trans (hbw.mono (HB10.out).size))
                have NBi11 := Lib.hid ((hbw.block Bi (Array.getElem?_eq_some_iff.1 NBi10.out).1).trans NBi10.out)
                have NBt11 := Lib.hid ((hbw.block Bt (Array.getElem?_eq_some_iff.1 NBt10.out).1).trans NBt10.out)
                have NBp211 := Lib.hid ((hbw.block Bp2 (Array.getElem?_eq_some_iff.1 NBp210.out).1).trans NBp210.out)
                have FP11 := Lib.hid ((FP10.out).keep hbw (Nat.le_refl _))
                have FR11 := Lib.hid ((FR10.out).keep hbw (Nat.le_refl _))
                clear HB10 NBi10 NBt10 NBp210 cBi0_10 cBi1_10 cBi2_10 cBt0_10 cBt1_10 cBp20_10 cBp21_10 FP10 FR10 hbw S0
                have cBi0_11 : w11.cell? ⟨Bi, 0, none⟩ = some (.slice (some ⟨b, o, none⟩) l.length cap) := by simp [World.cell?, NBi11.out]
                have cBi1_11 : w11.cell? ⟨Bi, 1, none⟩ = some (.int .i64 T) := by simp [World.cell?, NBi11.out]
                have cBi2_11 : w11.cell? ⟨Bi, 2, none⟩ = some (.int .i64 C) := by simp [World.cell?, NBi11.out]
                have cBt0_11 : w11.cell? ⟨Bt, 0, none⟩ = some (.slice At ts.length tcap) := by simp [World.cell?, NBt11.out]
                have cBt1_11 : w11.cell? ⟨Bt, 1, none⟩ = some (.slice Ac cs.length ccap) := by simp [World.cell?, NBt11.out]
                have cBp20_11 : w11.cell? ⟨Bp2, 0, none⟩ = some (.slice Ap tps.length tp) := by simp [World.cell?, NBp211.out]
                have cBp21_11 : w11.cell? ⟨Bp2, 1, none⟩ = some (.slice Bp cps.length cp) := by simp [World.cell?, NBp211.out]
                clear FP11
                clear FR11
                obtain ⟨f, hf⟩ : ∃ f, e % 6 = f := ⟨_, rfl⟩
                have f0 : 0 ≤ f ∧ f ≤ 5 := by omega
                have hcl := Lib.hid (closed_any (.slice Aw ws.length capw) ws f _ (HW.out.keep HB11.out (Nat.le_refl _)) hWl f0)
                go_wp2_with fail
                refine hcl.out.mono ?_
                rintro e' w12 ⟨hb, Ax, capx, Tx, Cx, vx, lx, xs, rfl, hAx, hIx, ⟨gx, rfl⟩, hlen, hcl2⟩
                obtain ⟨Av, cv, rfl, _⟩ := id hIx
                have HLEN := Lib.hid hlen
                clear hlen hcl
                have HB12 := Lib.hid ((HB11.out).trans (hb.mono (HB11.out).size))
                have NBi12 := Lib.hid ((hb.block Bi (Array.getElem?_eq_some_iff.1 NBi11.out).1).trans NBi11.out)
                have NBt12 := Lib.hid ((hb.block Bt (Array.getElem?_eq_some_iff.1 NBt11.out).1).trans NBt11.out)
                have NBp212 := Lib.hid ((hb.block Bp2 (Array.getElem?_eq_some_iff.1 NBp211.out).1).trans NBp211.out)
                have FX12 := Lib.hid hAx
                have FV12 := Lib.hid hIx
                clear HB11 NBi11 NBt11 NBp211 cBi0_11 cBi1_11 cBi2_11 cBt0_11 cBt1_11 cBp20_11 cBp21_11 hAx hIx hb 
                have cBi0_12 : w12.cell? ⟨Bi, 0, none⟩ = some (.slice (some ⟨b, o, none⟩) l.length cap) := by simp [World.cell?, NBi12.out]
                have cBi1_12 : w12.cell? ⟨Bi, 1, none⟩ = some (.int .i64 T) := by simp [World.cell?, NBi12.out]
                have cBi2_12 : w12.cell? ⟨Bi, 2, none⟩ = some (.int .i64 C) := by simp [World.cell?, NBi12.out]
                have cBt0_12 : w12.cell? ⟨Bt, 0, none⟩ = some (.slice At ts.length tcap) := by simp [World.cell?, NBt12.out]
                have cBt1_12 : w12.cell? ⟨Bt, 1, none⟩ = some (.slice Ac cs.length ccap) := by simp [World.cell?, NBt12.out]
                have cBp20_12 : w12.cell? ⟨Bp2, 0, none⟩ = some (.slice Ap tps.length tp) := by simp [World.cell?, NBp212.out]
                have cBp21_12 : w12.cell? ⟨Bp2, 1, none⟩ = some (.slice Bp cps.length cp) := by simp [World.cell?, NBp212.out]
                rcases hcl2 with ⟨h13, hf3⟩ | ⟨hokx, htb⟩
                · have HF := Lib.hid hf3
                  have hl13 : lx.length ≤ 1000000 := by omega
                  clear hf3 h13
                  go_wp2_with fail
                  have hbx : Below w12.heap.size w12 (w12.alloc (.cells #[.slice (some ⟨gx, 0, none⟩) lx.length capx, .int .i64 Tx, .int .i64 Cx] 24)) := (Below.refl _ _).alloc (Nat.le_refl _) _
                  have hnx := Go.heap_alloc_new w12 (.cells #[.slice (some ⟨gx, 0, none⟩) lx.length capx, .int .i64 Tx, .int .i64 Cx] 24)
                  obtain ⟨Bx, hBx⟩ : ∃ x, w12.heap.size = x := ⟨_, rfl⟩
                  have oBx : w.heap.size ≤ Bx := by have := HB12.out.size; omega
                  have oBiBx : Bi < Bx := by have := (Array.getElem?_eq_some_iff.1 NBi12.out).1; omega
                  have oBtBx : Bt < Bx := by have := (Array.getElem?_eq_some_iff.1 NBt12.out).1; omega
                  have oBp2Bx : Bp2 < Bx := by have := (Array.getElem?_eq_some_iff.1 NBp212.out).1; omega
                  generalize hwx : w12.alloc (.cells #[.slice (some ⟨gx, 0, none⟩) lx.length capx, .int .i64 Tx, .int .i64 Cx] 24) = w13 at hbx hnx ⊢
                  have HB13 := Lib.hid ((HB12.out).trans (hbx.mono (HB12.out).size))
                  have NBi13 := Lib.hid ((hbx.block Bi (Array.getElem?_eq_some_iff.1 NBi12.out).1).trans NBi12.out)
                  have NBt13 := Lib.hid ((hbx.block Bt (Array.getElem?_eq_some_iff.1 NBt12.out).1).trans NBt12.out)
                  have NBp213 := Lib.hid ((hbx.block Bp2 (Array.getElem?_eq_some_iff.1 NBp212.out).1).trans NBp212.out)
                  have FX13 := Lib.hid ((FX12.out).keep hbx (Nat.le_refl _))
                  have FV13 := Lib.hid ((FV12.out).keep hbx (Nat.le_refl _))
                  clear HB12 NBi12 NBt12 NBp212 cBi0_12 cBi1_12 cBi2_12 cBt0_12 cBt1_12 cBp20_12 cBp21_12 FX12 FV12 hbx 
                  have cBi0_13 : w13.cell? ⟨Bi, 0, none⟩ = some (.slice (some ⟨b, o, none⟩) l.length cap) := by simp [World.cell?, NBi13.out]
                  have cBi1_13 : w13.cell? ⟨Bi, 1, none⟩ = some (.int .i64 T) := by simp [World.cell?, NBi13.out]
                  have cBi2_13 : w13.cell? ⟨Bi, 2, none⟩ = some (.int .i64 C) := by simp [World.cell?, NBi13.out]
                  have cBt0_13 : w13.cell? ⟨Bt, 0, none⟩ = some (.slice At ts.length tcap) := by simp [World.cell?, NBt13.out]
                  have cBt1_13 : w13.cell? ⟨Bt, 1, none⟩ = some (.slice Ac cs.length ccap) := by simp [World.cell?, NBt13.out]
                  have cBp20_13 : w13.cell? ⟨Bp2, 0, none⟩ = some (.slice Ap tps.length tp) := by simp [World.cell?, NBp213.out]
                  have cBp21_13 : w13.cell? ⟨Bp2, 1, none⟩ = some (.slice Bp cps.length cp) := by simp [World.cell?, NBp213.out]
                  rw [hBx] at hnx ⊢
                  have NBx13 := Lib.hid hnx
                  clear hnx hwx hBx
                  have cBx0_13 : w13.cell? ⟨Bx, 0, none⟩ = some (.slice (some ⟨gx, 0, none⟩) lx.length capx) := by simp [World.cell?, NBx13.out]
                  have cBx1_13 : w13.cell? ⟨Bx, 1, none⟩ = some (.int .i64 Tx) := by simp [World.cell?, NBx13.out]
                  have cBx2_13 : w13.cell? ⟨Bx, 2, none⟩ = some (.int .i64 Cx) := by simp [World.cell?, NBx13.out]
                  have hfa := Lib.hid (lawFault_any (some ⟨gx, 0, none⟩) lx.length capx Tx Cx lx w13 hl13 rfl FX13.out)
                  rw [HF.out] at hfa
                  go_wp2_with fail
                  refine (hfa.out).mono ?_
                  rintro e w14 ⟨rfl, hb⟩
                  have HB14 := Lib.hid ((HB13.out).trans (hb.mono (HB13.out).size))
                  have NBi14 := Lib.hid ((hb.block Bi (Array.getElem?_eq_some_iff.1 NBi13.out).1).trans NBi13.out)
                  have NBt14 := Lib.hid ((hb.block Bt (Array.getElem?_eq_some_iff.1 NBt13.out).1).trans NBt13.out)
                  have NBp214 := Lib.hid ((hb.block Bp2 (Array.getElem?_eq_some_iff.1 NBp213.out).1).trans NBp213.out)
                  have NBx14 := Lib.hid ((hb.block Bx (Array.getElem?_eq_some_iff.1 NBx13.out).1).trans NBx13.out)
                  have FX14 := Lib.hid ((FX13.out).keep hb (Nat.le_refl _))
                  have FV14 := Lib.hid ((FV13.out).keep hb (Nat.le_refl _))
                  clear HB13 NBi13 NBt13 NBp213 NBx13 cBi0_13 cBi1_13 cBi2_13 cBt0_13 cBt1_13 cBp20_13 cBp21_13 cBx0_13 cBx1_13 cBx2_13 FX13 FV13 hb hfa
                  have cBi0_14 : w14.cell? ⟨Bi, 0, none⟩ = some (.slice (some ⟨b, o, none⟩) l.length cap) := by simp [World.cell?, NBi14.out]
                  have cBi1_14 : w14.cell? ⟨Bi, 1, none⟩ = some (.int .i64 T) := by simp [World.cell?, NBi14.out]
                  have cBi2_14 : w14.cell? ⟨Bi, 2, none⟩ = some (.int .i64 C) := by simp [World.cell?, NBi14.out]
                  have cBt0_14 : w14.cell? ⟨Bt, 0, none⟩ = some (.slice At ts.length tcap) := by simp [World.cell?, NBt14.out]
                  have cBt1_14 : w14.cell? ⟨Bt, 1, none⟩ = some (.slice Ac cs.length ccap) := by simp [World.cell?, NBt14.out]
                  have cBp20_14 : w14.cell? ⟨Bp2, 0, none⟩ = some (.slice Ap tps.length tp) := by simp [World.cell?, NBp214.out]
                  have cBp21_14 : w14.cell? ⟨Bp2, 1, none⟩ = some (.slice Bp cps.length cp) := by simp [World.cell?, NBp214.out]
                  have cBx0_14 : w14.cell? ⟨Bx, 0, none⟩ = some (.slice (some ⟨gx, 0, none⟩) lx.length capx) := by simp [World.cell?, NBx14.out]
                  have cBx1_14 : w14.cell? ⟨Bx, 1, none⟩ = some (.int .i64 Tx) := by simp [World.cell?, NBx14.out]
                  have cBx2_14 : w14.cell? ⟨Bx, 2, none⟩ = some (.int .i64 Cx) := by simp [World.cell?, NBx14.out]
                  go_wp2_with fail
                  refine (awake_any _).mono ?_
                  rintro e w15 ⟨rfl, hb⟩
                  have HB15 := Lib.hid ((HB14.out).trans (hb.mono (HB14.out).size))
                  have NBi15 := Lib.hid ((hb.block Bi (Array.getElem?_eq_some_iff.1 NBi14.out).1).trans NBi14.out)
                  have NBt15 := Lib.hid ((hb.block Bt (Array.getElem?_eq_some_iff.1 NBt14.out).1).trans NBt14.out)
                  have NBp215 := Lib.hid ((hb.block Bp2 (Array.getElem?_eq_some_iff.1 NBp214.out).1).trans NBp214.out)
                  have NBx15 := Lib.hid ((hb.block Bx (Array.getElem?_eq_some_iff.1 NBx14.out).1).trans NBx14.out)
                  have FX15 := Lib.hid ((FX14.out).keep hb (Nat.le_refl _))
                  have FV15 := Lib.hid ((FV14.out).keep hb (Nat.le_refl _))
                  clear HB14 NBi14 NBt14 NBp214 NBx14 cBi0_14 cBi1_14 cBi2_14 cBt0_14 cBt1_14 cBp20_14 cBp21_14 cBx0_14 cBx1_14 cBx2_14 FX14 FV14 hb 
                  have cBi0_15 : w15.cell? ⟨Bi, 0, none⟩ = some (.slice (some ⟨b, o, none⟩) l.length cap) := by simp [World.cell?, NBi15.out]
                  have cBi1_15 : w15.cell? ⟨Bi, 1, none⟩ = some (.int .i64 T) := by simp [World.cell?, NBi15.out]
                  have cBi2_15 : w15.cell? ⟨Bi, 2, none⟩ = some (.int .i64 C) := by simp [World.cell?, NBi15.out]
                  have cBt0_15 : w15.cell? ⟨Bt, 0, none⟩ = some (.slice At ts.length tcap) := by simp [World.cell?, NBt15.out]
                  have cBt1_15 : w15.cell? ⟨Bt, 1, none⟩ = some (.slice Ac cs.length ccap) := by simp [World.cell?, NBt15.out]
                  have cBp20_15 : w15.cell? ⟨Bp2, 0, none⟩ = some (.slice Ap tps.length tp) := by simp [World.cell?, NBp215.out]
                  have cBp21_15 : w15.cell? ⟨Bp2, 1, none⟩ = some (.slice Bp cps.length cp) := by simp [World.cell?, NBp215.out]
                  have cBx0_15 : w15.cell? ⟨Bx, 0, none⟩ = some (.slice (some ⟨gx, 0, none⟩) lx.length capx) := by simp [World.cell?, NBx15.out]
                  have cBx1_15 : w15.cell? ⟨Bx, 1, none⟩ = some (.int .i64 Tx) := by simp [World.cell?, NBx15.out]
                  have cBx2_15 : w15.cell? ⟨Bx, 2, none⟩ = some (.int .i64 Cx) := by simp [World.cell?, NBx15.out]
                  go_wp2_with fail
                  go_ret
                  exact ⟨rfl, HB15.out⟩
                · have HOX := Lib.hid hokx
                  have HTB := Lib.hid htb
                  have hnx12 := hokx.len
                  have hposx := hokx.pos
                  have hftx := Lib.hid (faultL_zero.2 hokx)
                  have hxl : xs.length ≤ 1000000 := by have := HLEN.out; omega
                  have HCN := Lib.hid (cutB_no (ts := ts) (cs := cs) (truthB_can htb))
                  clear hokx htb
                  go_wp2_with fail
                  have hbx : Below w12.heap.size w12 (w12.alloc (.cells #[.slice (some ⟨gx, 0, none⟩) lx.length capx, .int .i64 Tx, .int .i64 Cx] 24)) := (Below.refl _ _).alloc (Nat.le_refl _) _
                  have hnx := Go.heap_alloc_new w12 (.cells #[.slice (some ⟨gx, 0, none⟩) lx.length capx, .int .i64 Tx, .int .i64 Cx] 24)
                  obtain ⟨Bx, hBx⟩ : ∃ x, w12.heap.size = x := ⟨_, rfl⟩
                  have oBx : w.heap.size ≤ Bx := by have := HB12.out.size; omega
                  have oBiBx : Bi < Bx := by have := (Array.getElem?_eq_some_iff.1 NBi12.out).1; omega
                  have oBtBx : Bt < Bx := by have := (Array.getElem?_eq_some_iff.1 NBt12.out).1; omega
                  have oBp2Bx : Bp2 < Bx := by have := (Array.getElem?_eq_some_iff.1 NBp212.out).1; omega
                  generalize hwx : w12.alloc (.cells #[.slice (some ⟨gx, 0, none⟩) lx.length capx, .int .i64 Tx, .int .i64 Cx] 24) = w13 at hbx hnx ⊢
                  have HB13 := Lib.hid ((HB12.out).trans (hbx.mono (HB12.out).size))
                  have NBi13 := Lib.hid ((hbx.block Bi (Array.getElem?_eq_some_iff.1 NBi12.out).1).trans NBi12.out)
                  have NBt13 := Lib.hid ((hbx.block Bt (Array.getElem?_eq_some_iff.1 NBt12.out).1).trans NBt12.out)
                  have NBp213 := Lib.hid ((hbx.block Bp2 (Array.getElem?_eq_some_iff.1 NBp212.out).1).trans NBp212.out)
                  have FX13 := Lib.hid ((FX12.out).keep hbx (Nat.le_refl _))
                  have FV13 := Lib.hid ((FV12.out).keep hbx (Nat.le_refl _))
                  clear HB12 NBi12 NBt12 NBp212 cBi0_12 cBi1_12 cBi2_12 cBt0_12 cBt1_12 cBp20_12 cBp21_12 FX12 FV12 hbx 
                  have cBi0_13 : w13.cell? ⟨Bi, 0, none⟩ = some (.slice (some ⟨b, o, none⟩) l.length cap) := by simp [World.cell?, NBi13.out]
                  have cBi1_13 : w13.cell? ⟨Bi, 1, none⟩ = some (.int .i64 T) := by simp [World.cell?, NBi13.out]
                  have cBi2_13 : w13.cell? ⟨Bi, 2, none⟩ = some (.int .i64 C) := by simp [World.cell?, NBi13.out]
                  have cBt0_13 : w13.cell? ⟨Bt, 0, none⟩ = some (.slice At ts.length tcap) := by simp [World.cell?, NBt13.out]
                  have cBt1_13 : w13.cell? ⟨Bt, 1, none⟩ = some (.slice Ac cs.length ccap) := by simp [World.cell?, NBt13.out]
                  have cBp20_13 : w13.cell? ⟨Bp2, 0, none⟩ = some (.slice Ap tps.length tp) := by simp [World.cell?, NBp213.out]
                  have cBp21_13 : w13.cell? ⟨Bp2, 1, none⟩ = some (.slice Bp cps.length cp) := by simp [World.cell?, NBp213.out]
                  rw [hBx] at hnx ⊢
                  have NBx13 := Lib.hid hnx
                  clear hnx hwx hBx
                  have cBx0_13 : w13.cell? ⟨Bx, 0, none⟩ = some (.slice (some ⟨gx, 0, none⟩) lx.length capx) := by simp [World.cell?, NBx13.out]
                  have cBx1_13 : w13.cell? ⟨Bx, 1, none⟩ = some (.int .i64 Tx) := by simp [World.cell?, NBx13.out]
                  have cBx2_13 : w13.cell? ⟨Bx, 2, none⟩ = some (.int .i64 Cx) := by simp [World.cell?, NBx13.out]
                  have hfa := Lib.hid (lawFault_any (some ⟨gx, 0, none⟩) lx.length capx Tx Cx lx w13 (by omega) rfl FX13.out)
                  rw [hftx.out] at hfa
                  go_wp2_with fail
                  refine (hfa.out).mono ?_
                  rintro e w14 ⟨rfl, hb⟩
                  have HB14 := Lib.hid ((HB13.out).trans (hb.mono (HB13.out).size))
                  have NBi14 := Lib.hid ((hb.block Bi (Array.getElem?_eq_some_iff.1 NBi13.out).1).trans NBi13.out)
                  have NBt14 := Lib.hid ((hb.block Bt (Array.getElem?_eq_some_iff.1 NBt13.out).1).trans NBt13.out)
                  have NBp214 := Lib.hid ((hb.block Bp2 (Array.getElem?_eq_some_iff.1 NBp213.out).1).trans NBp213.out)
                  have NBx14 := Lib.hid ((hb.block Bx (Array.getElem?_eq_some_iff.1 NBx13.out).1).trans NBx13.out)
                  have FX14 := Lib.hid ((FX13.out).keep hb (Nat.le_refl _))
                  have FV14 := Lib.hid ((FV13.out).keep hb (Nat.le_refl _))
                  clear HB13 NBi13 NBt13 NBp213 NBx13 cBi0_13 cBi1_13 cBi2_13 cBt0_13 cBt1_13 cBp20_13 cBp21_13 cBx0_13 cBx1_13 cBx2_13 FX13 FV13 hb hfa
                  have cBi0_14 : w14.cell? ⟨Bi, 0, none⟩ = some (.slice (some ⟨b, o, none⟩) l.length cap) := by simp [World.cell?, NBi14.out]
                  have cBi1_14 : w14.cell? ⟨Bi, 1, none⟩ = some (.int .i64 T) := by simp [World.cell?, NBi14.out]
                  have cBi2_14 : w14.cell? ⟨Bi, 2, none⟩ = some (.int .i64 C) := by simp [World.cell?, NBi14.out]
                  have cBt0_14 : w14.cell? ⟨Bt, 0, none⟩ = some (.slice At ts.length tcap) := by simp [World.cell?, NBt14.out]
                  have cBt1_14 : w14.cell? ⟨Bt, 1, none⟩ = some (.slice Ac cs.length ccap) := by simp [World.cell?, NBt14.out]
                  have cBp20_14 : w14.cell? ⟨Bp2, 0, none⟩ = some (.slice Ap tps.length tp) := by simp [World.cell?, NBp214.out]
                  have cBp21_14 : w14.cell? ⟨Bp2, 1, none⟩ = some (.slice Bp cps.length cp) := by simp [World.cell?, NBp214.out]
                  have cBx0_14 : w14.cell? ⟨Bx, 0, none⟩ = some (.slice (some ⟨gx, 0, none⟩) lx.length capx) := by simp [World.cell?, NBx14.out]
                  have cBx1_14 : w14.cell? ⟨Bx, 1, none⟩ = some (.int .i64 Tx) := by simp [World.cell?, NBx14.out]
                  have cBx2_14 : w14.cell? ⟨Bx, 2, none⟩ = some (.int .i64 Cx) := by simp [World.cell?, NBx14.out]
                  have hnil : Av = none → cv = 0 := fun h => by
                    obtain ⟨A2, c2, he2, hc2⟩ := FV14.out
                    cases he2
                    rcases hc2 with hc2 | ⟨b2, o2, h2, _⟩
                    · have := HLEN.out; rw [hc2] at this; simp at this; rw [this] at hposx; simp at hposx
                    · rw [h] at h2; cases h2
                  have S0 := Lib.hid (⟨cBx0_14, cBx1_14, cBx2_14, cBt0_14, cBt1_14⟩ : w14.cell? ⟨Bx, 0, none⟩ = some (.slice (some ⟨gx, 0, none⟩) lx.length capx) ∧ w14.cell? ⟨Bx, 1, none⟩ = some (.int .i64 Tx) ∧ w14.cell? ⟨Bx, 2, none⟩ = some (.int .i64 Cx) ∧ w14.cell? ⟨Bt, 0, none⟩ = some (.slice At ts.length tcap) ∧ w14.cell? ⟨Bt, 1, none⟩ = some (.slice Ac cs.length ccap))
                  have hwr : IntKind.i64.wrap f = f := IntWalk.i64_in _ (by omega)
                  have hft6 : e.tmod 6 = f := by rw [← hf]; exact Int.tmod_eq_emod_of_nonneg (by omega)
                  go_wp2_with fail
                  refine wp_region_held_drew (S := fun X => X.cell? ⟨Bx, 0, none⟩ = some (.slice (some ⟨gx, 0, none⟩) lx.length capx) ∧ X.cell? ⟨Bx, 1, none⟩ = some (.int .i64 Tx) ∧ X.cell? ⟨Bx, 2, none⟩ = some (.int .i64 Cx) ∧ X.cell? ⟨Bt, 0, none⟩ = some (.slice At ts.length tcap) ∧ X.cell? ⟨Bt, 1, none⟩ = some (.slice Ac cs.length ccap)) (by kernel_rfl) (S0.out) (fun hS0 => ?_)
                  refine wpAnyH_take (i := 0) (oi := { dst := some 126, op := Op.load 24 (Operand.tmp 16), type := 24, pos := "outright.go:168", after := #[], guard := none }) (v := ?_) rfl (by kernel_rfl) (by kernel_rfl) (by kernel_rfl) (fun _ _ _ h => h) (Or.inl ⟨by rfl, ?_⟩) hS0 ?_
                  rotate_left
                  · intro X hX
                    obtain ⟨x0, x1, x2, x3, x4⟩ := hX
                    go_simp
                    try with_reducible rfl
                  simp only [Act.put, List.setIfInBounds_toArray, List.set_cons_zero, List.set_cons_succ, Array.toArray_toList]
                  refine wpAnyH_take (i := 2) (oi := { dst := some 128, op := Op.move (Operand.tmp 9), type := 3, pos := "outright.go:168", after := #[], guard := none }) (v := ?_) rfl (by kernel_rfl) (by kernel_rfl) (by kernel_rfl) (fun _ _ _ h => h) (Or.inl ⟨by rfl, ?_⟩) hS0 ?_
                  rotate_left
                  · intro X hX
                    obtain ⟨x0, x1, x2, x3, x4⟩ := hX
                    go_simp
                    try with_reducible rfl
                  simp only [Act.put, List.setIfInBounds_toArray, List.set_cons_zero, List.set_cons_succ, Array.toArray_toList]
                  refine wpAnyH_take (i := 3) (oi := { dst := some 129, op := Op.binOp BinOp.rem 3 (Operand.tmp 128) (Operand.const (Value.int IntKind.i64 6)) 3, type := 3, pos := "outright.go:168", after := #[{ on := 2, ground := Ground.data }], guard := none }) (v := ?_) rfl (by kernel_rfl) (by kernel_rfl) (by kernel_rfl) (fun _ _ _ h => h) (Or.inl ⟨by rfl, ?_⟩) hS0 ?_
                  rotate_left
                  · intro X hX
                    obtain ⟨x0, x1, x2, x3, x4⟩ := hX
                    go_simp
                    try with_reducible rfl
                  simp only [Act.put, List.setIfInBounds_toArray, List.set_cons_zero, List.set_cons_succ, Array.toArray_toList]
                  refine wpAnyH_take (i := 4) (oi := { dst := some 130, op := Op.move (Operand.tmp 17), type := 25, pos := "outright.go:168", after := #[], guard := none }) (v := ?_) rfl (by kernel_rfl) (by kernel_rfl) (by kernel_rfl) (fun _ _ _ h => h) (Or.inl ⟨by rfl, ?_⟩) hS0 ?_
                  rotate_left
                  · intro X hX
                    obtain ⟨x0, x1, x2, x3, x4⟩ := hX
                    go_simp
                    try with_reducible rfl
                  simp only [Act.put, List.setIfInBounds_toArray, List.set_cons_zero, List.set_cons_succ, Array.toArray_toList]
                  refine wpAnyH_ready (rs := [1]) (by kernel_rfl) (by simp) (AllReadyH.cons (o := { dst := some 127, op := Op.call { callee := Callee.value (Operand.func 22), args := #[Operand.tmp 126], argTypes := #[24] }, type := 33, pos := "outright.go:168", after := #[{ on := 0, ground := Ground.data }], guard := none }) rfl (fun K hK => ?_) AllReadyH.nil)
                  go_simp
                  refine (net_any _ capx Tx Cx lx _ (FX14.out.keep ((Below.refl _ w14).drew) (Nat.le_refl _)) (by omega)).mono ?_
                  rintro e' y1 ⟨Aqa, cqa, rfl, hq, hqn, hb⟩
                  have hY1 := (Below.refl _ w14).drew.trans hb
                  have HQa := Lib.hid hq
                  clear hq hqn
                  clear hb
                  go_wp2_with fail
                  refine hK.out _ _ (keepS5 hY1 S0.out) (fun hS1 => ?_)
                  clear hS0 hK K
                  refine wpAnyH_ready (rs := [5]) (by kernel_rfl) (by simp) (AllReadyH.cons (o := { dst := some 131, op := Op.call { callee := Callee.value (Operand.func 23), args := #[Operand.tmp 130], argTypes := #[25] }, type := 25, pos := "outright.go:168", after := #[{ on := 4, ground := Ground.data }, { on := 1, ground := Ground.chain }], guard := none }) rfl (fun K hK => ?_) AllReadyH.nil)
                  go_simp
                  refine (list_any Av cv xs _ hnil (FV14.out.keep hY1 (Nat.le_refl _)) hxl).mono ?_
                  rintro e' y2 ⟨vl, rfl, hvl, hb⟩
                  have hY2 := hY1.trans (hb.mono hY1.size)
                  have HVL := Lib.hid hvl
                  clear hvl
                  have HZ := hb
                  clear hb
                  go_wp2_with fail
                  refine hK.out _ _ (keepS5 hY2 S0.out) (fun hS2 => ?_)
                  clear hS1 hK K
                  refine wpAnyH_ready (rs := [6]) (by kernel_rfl) (by simp) (AllReadyH.cons (o := { dst := some 132, op := Op.call { callee := Callee.value (Operand.func 21), args := #[Operand.tmp 127, Operand.tmp 129, Operand.tmp 131], argTypes := #[33, 3, 25] }, type := 4, pos := "outright.go:168", after := #[{ on := 1, ground := Ground.data }, { on := 3, ground := Ground.data }, { on := 5, ground := Ground.data }, { on := 5, ground := Ground.chain }], guard := none }) rfl (fun K hK => ?_) AllReadyH.nil)
                  go_simp
                  have hpt := proveTruth_any _ lx.length cqa Tx Cx f lx vl xs y2 (by omega) rfl (HQa.out.keep HZ (Nat.le_refl _)) HVL.out
                  rw [HTB.out] at hpt
                  refine hpt.mono ?_
                  rintro e' y3 ⟨rfl, hb⟩
                  have hY3 := hY2.trans (hb.mono hY2.size)
                  clear hb hpt HZ
                  go_wp2_with fail
                  refine hK.out _ _ (keepS5 hY3 S0.out) (fun hS3 => ?_)
                  clear hS2 hK K
                  refine wpAnyH_take (i := 7) (oi := { dst := some 133, op := Op.move (Operand.tmp 132), type := 4, pos := "outright.go:168", after := #[{ on := 6, ground := Ground.data }, { on := 6, ground := Ground.chain }], guard := none }) (v := ?_) rfl (by kernel_rfl) (by kernel_rfl) (by kernel_rfl) (fun _ _ _ h => h) (Or.inl ⟨by rfl, ?_⟩) hS3 ?_
                  rotate_left
                  · intro X hX
                    obtain ⟨x0, x1, x2, x3, x4⟩ := hX
                    go_simp
                    try with_reducible rfl
                  simp only [Act.put, List.setIfInBounds_toArray, List.set_cons_zero, List.set_cons_succ, Array.toArray_toList]
                  refine wpAnyH_take (i := 8) (oi := { dst := some 134, op := Op.load 24 (Operand.tmp 16), type := 24, pos := "outright.go:168", after := #[{ on := 7, ground := Ground.guard }], guard := some (7, true) }) (v := ?_) rfl (by kernel_rfl) (by kernel_rfl) (by kernel_rfl) (fun _ _ _ h => h) (Or.inl ⟨by rfl, ?_⟩) hS3 ?_
                  rotate_left
                  · intro X hX
                    obtain ⟨x0, x1, x2, x3, x4⟩ := hX
                    go_simp
                    try with_reducible rfl
                  simp only [Act.put, List.setIfInBounds_toArray, List.set_cons_zero, List.set_cons_succ, Array.toArray_toList]
                  refine wpAnyH_take (i := 10) (oi := { dst := some 136, op := Op.move (Operand.tmp 9), type := 3, pos := "outright.go:168", after := #[{ on := 7, ground := Ground.guard }], guard := some (7, true) }) (v := ?_) rfl (by kernel_rfl) (by kernel_rfl) (by kernel_rfl) (fun _ _ _ h => h) (Or.inl ⟨by rfl, ?_⟩) hS3 ?_
                  rotate_left
                  · intro X hX
                    obtain ⟨x0, x1, x2, x3, x4⟩ := hX
                    go_simp
                    try with_reducible rfl
                  simp only [Act.put, List.setIfInBounds_toArray, List.set_cons_zero, List.set_cons_succ, Array.toArray_toList]
                  refine wpAnyH_take (i := 11) (oi := { dst := some 137, op := Op.binOp BinOp.rem 3 (Operand.tmp 136) (Operand.const (Value.int IntKind.i64 6)) 3, type := 3, pos := "outright.go:168", after := #[{ on := 10, ground := Ground.data }, { on := 7, ground := Ground.guard }], guard := some (7, true) }) (v := ?_) rfl (by kernel_rfl) (by kernel_rfl) (by kernel_rfl) (fun _ _ _ h => h) (Or.inl ⟨by rfl, ?_⟩) hS3 ?_
                  rotate_left
                  · intro X hX
                    obtain ⟨x0, x1, x2, x3, x4⟩ := hX
                    go_simp
                    try with_reducible rfl
                  simp only [Act.put, List.setIfInBounds_toArray, List.set_cons_zero, List.set_cons_succ, Array.toArray_toList]
                  refine wpAnyH_take (i := 12) (oi := { dst := some 138, op := Op.load 27 (Operand.tmp 7), type := 27, pos := "outright.go:168", after := #[{ on := 7, ground := Ground.guard }], guard := some (7, true) }) (v := ?_) rfl (by kernel_rfl) (by kernel_rfl) (by kernel_rfl) (fun _ _ _ h => h) (Or.inl ⟨by rfl, ?_⟩) hS3 ?_
                  rotate_left
                  · intro X hX
                    obtain ⟨x0, x1, x2, x3, x4⟩ := hX
                    go_simp
                    try with_reducible rfl
                  simp only [Act.put, List.setIfInBounds_toArray, List.set_cons_zero, List.set_cons_succ, Array.toArray_toList]
                  refine wpAnyH_ready (rs := [9]) (by kernel_rfl) (by simp) (AllReadyH.cons (o := { dst := some 135, op := Op.call { callee := Callee.value (Operand.func 22), args := #[Operand.tmp 134], argTypes := #[24] }, type := 33, pos := "outright.go:168", after := #[{ on := 8, ground := Ground.data }, { on := 7, ground := Ground.chain }, { on := 7, ground := Ground.guard }], guard := some (7, true) }) rfl (fun K hK => ?_) AllReadyH.nil)
                  go_simp
                  refine (net_any _ capx Tx Cx lx _ (FX14.out.keep hY3 (Nat.le_refl _)) (by omega)).mono ?_
                  rintro e' y4 ⟨Aqb, cqb, rfl, hq, hqn, hb⟩
                  have hY4 := hY3.trans (hb.mono hY3.size)
                  have HQb := Lib.hid hq
                  clear hq hqn
                  clear hb
                  go_wp2_with fail
                  refine hK.out _ _ (keepS5 hY4 S0.out) (fun hS4 => ?_)
                  clear hS3 hK K
                  refine wpAnyH_ready (rs := [13]) (by kernel_rfl) (by simp) (AllReadyH.cons (o := { dst := some 139, op := Op.call { callee := Callee.value (Operand.func 25), args := #[Operand.tmp 138], argTypes := #[27] }, type := 37, pos := "outright.go:168", after := #[{ on := 12, ground := Ground.data }, { on := 9, ground := Ground.chain }, { on := 7, ground := Ground.guard }], guard := some (7, true) }) rfl (fun K hK => ?_) AllReadyH.nil)
                  go_simp
                  refine (cut_any At Ac tcap ccap ts cs _ hNt hNc (HT.out.keep (HB14.out.trans (hY4.mono HB14.out.size)) (Nat.le_refl _)) (HC.out.keep (HB14.out.trans (hY4.mono HB14.out.size)) (Nat.le_refl _)) (by omega) (by omega)).mono ?_
                  rintro e' y5 ⟨u1, u2, rfl, hu1, hu2, hb⟩
                  have hY5 := hY4.trans (hb.mono hY4.size)
                  have HU1 := Lib.hid hu1
                  have HU2 := Lib.hid hu2
                  clear hu1 hu2
                  have HZ := hb
                  clear hb
                  go_wp2_with fail
                  refine hK.out _ _ (keepS5 hY5 S0.out) (fun hS5 => ?_)
                  clear hS4 hK K
                  refine wpAnyH_ready (rs := [14]) (by kernel_rfl) (by simp) (AllReadyH.cons (o := { dst := some 140, op := Op.call { callee := Callee.value (Operand.func 24), args := #[Operand.tmp 135, Operand.tmp 137, Operand.tmp 139], argTypes := #[33, 3, 37] }, type := 4, pos := "outright.go:168", after := #[{ on := 9, ground := Ground.data }, { on := 11, ground := Ground.data }, { on := 13, ground := Ground.data }, { on := 13, ground := Ground.chain }, { on := 7, ground := Ground.guard }], guard := some (7, true) }) rfl (fun K hK => ?_) AllReadyH.nil)
                  go_simp
                  have hpc := proveCut_any _ lx.length cqb Tx Cx f lx u1 u2 ts cs y5 (by omega) rfl (HQb.out.keep HZ (Nat.le_refl _)) HU1.out HU2.out (by omega) (by omega)
                  rw [HCN.out] at hpc
                  refine hpc.mono ?_
                  rintro e' y6 ⟨rfl, hb⟩
                  have hY6 := hY5.trans (hb.mono hY5.size)
                  clear hb hpc
                  go_wp2_with fail
                  refine hK.out _ _ (keepS5 hY6 S0.out) (fun hS6 => ?_)
                  clear hS5 hK K
                  refine wpAnyH_take (i := 15) (oi := { dst := some 141, op := Op.unOp UnOp.not 4 (Operand.tmp 140), type := 4, pos := "outright.go:168", after := #[{ on := 14, ground := Ground.data }, { on := 7, ground := Ground.guard }], guard := some (7, true) }) (v := ?_) rfl (by kernel_rfl) (by kernel_rfl) (by kernel_rfl) (fun _ _ _ h => h) (Or.inl ⟨by rfl, ?_⟩) hS6 ?_
                  rotate_left
                  · intro X hX
                    obtain ⟨x0, x1, x2, x3, x4⟩ := hX
                    go_simp
                    try with_reducible rfl
                  simp only [Act.put, List.setIfInBounds_toArray, List.set_cons_zero, List.set_cons_succ, Array.toArray_toList]
                  refine wpAnyH_take (i := 16) (oi := { dst := some 142, op := Op.pick (Operand.tmp 133) (Operand.tmp 141) (Operand.const (Value.bool false)), type := 4, pos := "outright.go:168", after := #[{ on := 7, ground := Ground.data }, { on := 15, ground := Ground.data }], guard := none }) (v := ?_) rfl (by kernel_rfl) (by kernel_rfl) (by kernel_rfl) (fun _ _ _ h => h) (Or.inl ⟨by rfl, ?_⟩) hS6 ?_
                  rotate_left
                  · intro X hX
                    obtain ⟨x0, x1, x2, x3, x4⟩ := hX
                    go_simp
                    try with_reducible rfl
                  simp only [Act.put, List.setIfInBounds_toArray, List.set_cons_zero, List.set_cons_succ, Array.toArray_toList]
                  refine wpAnyH_take (i := 17) (oi := { dst := some 143, op := Op.move (Operand.tmp 142), type := 4, pos := "outright.go:168", after := #[{ on := 16, ground := Ground.data }, { on := 14, ground := Ground.chain }], guard := none }) (v := ?_) rfl (by kernel_rfl) (by kernel_rfl) (by kernel_rfl) (fun _ _ _ h => h) (Or.inl ⟨by rfl, ?_⟩) hS6 ?_
                  rotate_left
                  · intro X hX
                    obtain ⟨x0, x1, x2, x3, x4⟩ := hX
                    go_simp
                    try with_reducible rfl
                  simp only [Act.put, List.setIfInBounds_toArray, List.set_cons_zero, List.set_cons_succ, Array.toArray_toList]
                  refine wpAnyH_ready (rs := [18]) (by kernel_rfl) (by simp) (AllReadyH.cons (o := { dst := some 144, op := Op.call { callee := Callee.value (Operand.func 20), args := #[], argTypes := #[] }, type := 4, pos := "outright.go:168", after := #[{ on := 17, ground := Ground.chain }, { on := 17, ground := Ground.guard }], guard := some (17, true) }) rfl (fun K hK => ?_) AllReadyH.nil)
                  go_simp
                  refine (awake_any _).mono ?_
                  rintro e' y7 ⟨rfl, hb⟩
                  have hY7 := hY6.trans (hb.mono hY6.size)
                  clear hb
                  go_wp2_with fail
                  refine hK.out _ _ (keepS5 hY7 S0.out) (fun hS7 => ?_)
                  clear hS6 hK K
                  refine wpAnyH_take (i := 19) (oi := { dst := some 145, op := Op.pick (Operand.tmp 143) (Operand.tmp 144) (Operand.const (Value.bool false)), type := 4, pos := "outright.go:168", after := #[{ on := 17, ground := Ground.data }, { on := 18, ground := Ground.data }], guard := none }) (v := ?_) rfl (by kernel_rfl) (by kernel_rfl) (by kernel_rfl) (fun _ _ _ h => h) (Or.inl ⟨by rfl, ?_⟩) hS7 ?_
                  rotate_left
                  · intro X hX
                    obtain ⟨x0, x1, x2, x3, x4⟩ := hX
                    go_simp
                    try with_reducible rfl
                  simp only [Act.put, List.setIfInBounds_toArray, List.set_cons_zero, List.set_cons_succ, Array.toArray_toList]
                  refine wpAnyH_ready (rs := [20]) (by kernel_rfl) (by simp) (AllReadyH.cons (o := { dst := some 8, op := Op.assign (Operand.tmp 145), type := 4, pos := "outright.go:168", after := #[{ on := 19, ground := Ground.data }, { on := 18, ground := Ground.chain }, { on := 0, ground := Ground.phase }, { on := 1, ground := Ground.phase }, { on := 2, ground := Ground.phase }, { on := 3, ground := Ground.phase }, { on := 4, ground := Ground.phase }, { on := 5, ground := Ground.phase }, { on := 6, ground := Ground.phase }, { on := 7, ground := Ground.phase }, { on := 8, ground := Ground.phase }, { on := 9, ground := Ground.phase }, { on := 10, ground := Ground.phase }, { on := 11, ground := Ground.phase }, { on := 12, ground := Ground.phase }, { on := 13, ground := Ground.phase }, { on := 14, ground := Ground.phase }, { on := 15, ground := Ground.phase }, { on := 16, ground := Ground.phase }, { on := 17, ground := Ground.phase }, { on := 18, ground := Ground.phase }, { on := 19, ground := Ground.phase }], guard := none }) rfl (fun K hK => ?_) AllReadyH.nil)
                  go_simp
                  refine hK.out _ _ (hS7) (fun hS8 => ?_)
                  clear hS7 hK K
                  refine wpAnyH_done (by kernel_rfl) ?_ _
                  clear hS8
                  have HBE := Lib.hid (HB14.out.trans (hY7.mono HB14.out.size))
                  go_wp2_with fail
                  go_ret
                  exact ⟨rfl, HBE.out⟩
end Go.Proofs.Ytkloaeaepjoijaa

/-
  The reference: Least; the laws' sure, few, to.
-/
import Derived.Test.YtkloaeaepjoijaaRef6
set_option linter.all false
namespace Go.Proofs.Ytkloaeaepjoijaa
open Go.RowKit Go.WalkArith

/-- The reference's smallest error; -1 if there is none. -/
def leastR (l : List Ang) (T C : Int) : Int := match leastO l T C with | some e => (e : Int) | none => -1

theorem refCanE_any (b o n cap : Nat) (T C err : Int) (l : List Ang) (rv : Value) (out : List Int) (w : World) (hl : l.length = n) (hok : NetOk l T C) (hA : AngsAt w (some ⟨b, o, none⟩) l) (he0 : 0 ≤ err) (hr : RangesAt w rv n (roomLo l err out) (roomHi l err out)) :
    Calls Try.prog 77 #[.agg #[.slice (some ⟨b, o, none⟩) n cap, .int .i64 T, .int .i64 C], rv] w fun e w' => e = .returned (.bool (canE l T C err out)) ∧ Below w.heap.size w w' :=
  refCan_any b o n cap T C l rv _ _ w hl hok hA hr (hl ▸ rooms_ok hok he0 out)

def RLRel (l : List Ang) (T C : Int) (w : World) (Bi : Nat) (net : Obj) (i : Value) (wr : World) : Prop :=
  ∃ k : Nat, k ≤ 41 ∧ i = .int .i64 k ∧ (∀ j : Nat, j < k → canE l T C j [] = false) ∧ Below w.heap.size w wr ∧ wr.heap[Bi]? = some net

set_option maxRecDepth 100000 in
set_option maxHeartbeats 4000000 in
theorem refLeast_any (b o n cap : Nat) (T C : Int) (l : List Ang) (w : World) (hl : l.length = n) (hok : NetOk l T C) (hA : AngsAt w (some ⟨b, o, none⟩) l) :
    Calls Try.prog 33 #[.agg #[.slice (some ⟨b, o, none⟩) n cap, .int .i64 T, .int .i64 C]] w fun e w' => e = .returned (.int .i64 (leastR l T C)) ∧ Below w.heap.size w w' := by
  have hB : Below w.heap.size w (w.alloc (.cells #[.slice (some ⟨b, o, none⟩) n cap, .int .i64 T, .int .i64 C] 24)) := (Below.refl _ _).alloc (Nat.le_refl _) _
  have hn0 := Go.heap_alloc_new w (.cells #[.slice (some ⟨b, o, none⟩) n cap, .int .i64 T, .int .i64 C] 24)
  have HB := Lib.hid hB
  have HN := Lib.hid hn0
  have HA := Lib.hid hA
  have HL := Lib.hid hl
  have HO := Lib.hid hok
  clear hB hn0 hA hl hok
  go_enter Try.func33, Try.ntmps33
  go_wp2_with fail
  generalize w.alloc (.cells #[.slice (some ⟨b, o, none⟩) n cap, .int .i64 T, .int .i64 C] 24) = w1 at HB HN ⊢
  obtain ⟨Bn, hBn⟩ : ∃ Bn, w.heap.size = Bn := ⟨_, rfl⟩
  rw [hBn] at HN ⊢
  clear hBn
  go_loopw [3] (RLRel l T C w Bn (.cells #[.slice (some ⟨b, o, none⟩) n cap, .int .i64 T, .int .i64 C] 24 (0, 0))) (fun i _ => 41 - (intOf i).toNat)
  case atStart => exact ⟨0, by omega, rfl, fun j h => by omega, HB.out, HN.out⟩
  case round =>
    clear HB HN
    obtain ⟨k, hk, rfl, hno, hBr, hnr⟩ := hrel
    have HNO := Lib.hid hno
    have HBR := Lib.hid hBr
    clear hno hBr
    by_cases hlt : k < 41
    · have hlt' : decide ((k : Int) ≤ 40) = true := by simp; omega
      have c0 : wr.cell? ⟨Bn, 0, none⟩ = some (.slice (some ⟨b, o, none⟩) n cap) := by simp [World.cell?, hnr]
      have c1 : wr.cell? ⟨Bn, 1, none⟩ = some (.int .i64 T) := by simp [World.cell?, hnr]
      have c2 : wr.cell? ⟨Bn, 2, none⟩ = some (.int .i64 C) := by simp [World.cell?, hnr]
      have hnl := (Array.getElem?_eq_some_iff.1 hnr).1
      have HNR := Lib.hid hnr
      clear hnr
      have hr0 := refRooms_any b o n cap T C k l 0 wr.drew HL.out HO.out (HA.out.keep HBR.out.drew (Nat.le_refl _)) (by omega) (by omega) (by decide)
      rw [bitsL_zero] at hr0
      have hr := Lib.hid hr0
      clear hr0
      cases hcan : canE l T C k [] with
      | true =>
        go_wp2_with fail
        go_region_held3 (fun X => X.cell? ⟨Bn, 0, none⟩ = some (.slice (some ⟨b, o, none⟩) n cap) ∧ X.cell? ⟨Bn, 1, none⟩ = some (.int .i64 T) ∧ X.cell? ⟨Bn, 2, none⟩ = some (.int .i64 C))
          (first | go_keep | exact ⟨cell_later hb2 c0, cell_later hb2 c1, cell_later hb2 c2⟩ | exact ⟨cell_later hb3 (cell_later hb2 c0), cell_later hb3 (cell_later hb2 c1), cell_later hb3 (cell_later hb2 c2)⟩)
          (first | (go_at_call 30; refine hr.out.mono ?_; rintro e w2 ⟨rs, rfl, hrs, hb2⟩) | (go_at_call 77; refine (refCanE_any b o n cap T C k l rs [] w2 HL.out HO.out (HA.out.keep (HBR.out.drew.trans (hb2.mono HBR.out.drew.size)) (Nat.le_refl _)) (by omega) hrs).mono ?_; rintro e w3 ⟨rfl, hb3⟩))
        have hB3 : Below w.heap.size w w3 := (HBR.out.drew.trans (hb2.mono HBR.out.drew.size)).trans (hb3.mono (HBR.out.drew.trans (hb2.mono HBR.out.drew.size)).size)
        have hlo : leastO l T C = some k := firstFrom_some hlt HNO.out hcan
        have hf1 : leastR l T C = k := by unfold leastR; rw [hlo]
        have HF1 := Lib.hid hf1
        have HB3 := Lib.hid hB3
        clear hf1 hlo hrs hb2 hb3 hB3
        go_wp2_with fail
        go_ret
        exact ⟨by rw [HF1.out]; rfl, HB3.out⟩
      | false =>
        go_wp2_with fail
        go_region_held3 (fun X => X.cell? ⟨Bn, 0, none⟩ = some (.slice (some ⟨b, o, none⟩) n cap) ∧ X.cell? ⟨Bn, 1, none⟩ = some (.int .i64 T) ∧ X.cell? ⟨Bn, 2, none⟩ = some (.int .i64 C))
          (first | go_keep | exact ⟨cell_later hb2 c0, cell_later hb2 c1, cell_later hb2 c2⟩ | exact ⟨cell_later hb3 (cell_later hb2 c0), cell_later hb3 (cell_later hb2 c1), cell_later hb3 (cell_later hb2 c2)⟩)
          (first | (go_at_call 30; refine hr.out.mono ?_; rintro e w2 ⟨rs, rfl, hrs, hb2⟩) | (go_at_call 77; refine (refCanE_any b o n cap T C k l rs [] w2 HL.out HO.out (HA.out.keep (HBR.out.drew.trans (hb2.mono HBR.out.drew.size)) (Nat.le_refl _)) (by omega) hrs).mono ?_; rintro e w3 ⟨rfl, hb3⟩))
        have hB3 : Below wr.drew.heap.size wr.drew w3 := hb2.trans (hb3.mono hb2.size)
        have hn3 := Lib.hid ((hB3.block Bn hnl).trans HNR.out)
        have hB4 := Lib.hid (HBR.out.drew.trans (hB3.mono HBR.out.size))
        have HC := Lib.hid hcan
        clear hB3 hb2 hb3 hcan hrs
        go_wp2_with fail
        go_roundw
        case rel => exact ⟨k + 1, by omega, by go_num, fun j hj => by
          by_cases e : j = k
          · subst e; exact HC.out
          · exact HNO.out j (by omega), hB4.out, hn3.out⟩
        case measure => simp [intOf]; omega
    · have hlt' : decide ((k : Int) ≤ 40) = false := by simp; omega
      have hlo : leastO l T C = none := firstFrom_none (fun j hj => HNO.out j (by omega))
      have hf1 : leastR l T C = -1 := by unfold leastR; rw [hlo]
      have HF1 := Lib.hid hf1
      clear hf1 hlo hnr
      go_wp2_with fail
      go_ret
      exact ⟨by rw [HF1.out]; rfl, HBR.out⟩
set_option maxRecDepth 100000 in
set_option maxHeartbeats 2000000 in
theorem lawSure_any (A : Option Addr) (n cap : Nat) (T C err : Int) (l : List Ang) (w : World) (hn : n ≤ 1000000) (hl : l.length = n) (hA : AngsAt w A l) :
    Calls Try.prog 37 #[.agg #[.slice A n cap, .int .i64 T, .int .i64 C], .int .i64 err] w fun e w' => e = .returned (.int .i64 (sureL l T C err)) ∧ Below w.heap.size w w' := by
  have hB : Below w.heap.size w (w.alloc (.cells #[.slice A n cap, .int .i64 T, .int .i64 C] 24)) := (Below.refl _ _).alloc (Nat.le_refl _) _
  have hck := Lib.hid (lawAsked_any A n cap T C err l _ hn hl (hA.keep hB (Nat.le_refl _)))
  have HB := Lib.hid hB
  by_cases hf : askedL l T C err = 0
  · obtain ⟨hok, he0, he1⟩ := askedL_ok hf
    obtain ⟨b, o, rfl⟩ := hA.some hok.pos
    have HA := Lib.hid hA
    have HO := Lib.hid hok
    have HL := Lib.hid hl
    rw [hf] at hck
    have HAS := Lib.hid hf
    have n0 := Lib.hid (Go.heap_alloc_new w (.cells #[.slice (some ⟨b, o, none⟩) n cap, .int .i64 T, .int .i64 C] 24))
    clear hB hA hl hok hf
    go_enter Try.func37, Try.ntmps37
    go_wp2_with fail
    refine hck.out.mono ?_
    rintro e w1 ⟨rfl, hb1⟩
    have hB1 : Below w.heap.size w w1 := HB.out.trans (hb1.mono HB.out.size)
    have n1 := (hb1.block w.heap.size (by simp)).trans n0.out
    have c0 : w1.cell? ⟨w.heap.size, 0, none⟩ = some (.slice (some ⟨b, o, none⟩) n cap) := by simp [World.cell?, n1]
    have c1 : w1.cell? ⟨w.heap.size, 1, none⟩ = some (.int .i64 T) := by simp [World.cell?, n1]
    have c2 : w1.cell? ⟨w.heap.size, 2, none⟩ = some (.int .i64 C) := by simp [World.cell?, n1]
    have HB1 := Lib.hid hB1
    clear n1 hb1 hB1 hck n0 HB
    have hr0 := refRooms_any b o n cap T C err l 0 w1.drew HL.out HO.out (HA.out.keep HB1.out.drew (Nat.le_refl _)) he0 he1 (by decide)
    rw [bitsL_zero] at hr0
    have hr := Lib.hid hr0
    clear hr0
    go_wp2_with fail
    have hsr : sureL l T C err = if canE l T C err [] then 0 else 9 := by unfold sureL; rw [if_neg (by rw [HAS.out]; simp)]
    have HSR := Lib.hid hsr
    clear hsr
    cases hcan : canE l T C err [] with
    | true =>
      rw [hcan] at HSR
      go_region_held3 (fun X => X.cell? ⟨w.heap.size, 0, none⟩ = some (.slice (some ⟨b, o, none⟩) n cap) ∧ X.cell? ⟨w.heap.size, 1, none⟩ = some (.int .i64 T) ∧ X.cell? ⟨w.heap.size, 2, none⟩ = some (.int .i64 C))
        (first | go_keep | exact ⟨cell_later hb2 c0, cell_later hb2 c1, cell_later hb2 c2⟩ | exact ⟨cell_later hb3 (cell_later hb2 c0), cell_later hb3 (cell_later hb2 c1), cell_later hb3 (cell_later hb2 c2)⟩)
        (first | (go_at_call 30; refine hr.out.mono ?_; rintro e w2 ⟨rs, rfl, hrs, hb2⟩) | (go_at_call 77; refine (refCanE_any b o n cap T C err l rs [] w2 HL.out HO.out (HA.out.keep (HB1.out.drew.trans (hb2.mono HB1.out.drew.size)) (Nat.le_refl _)) he0 hrs).mono ?_; rintro e w3 ⟨rfl, hb3⟩))
      have hB3 : Below w.heap.size w w3 := (HB1.out.drew.trans (hb2.mono HB1.out.drew.size)).trans (hb3.mono (HB1.out.drew.trans (hb2.mono HB1.out.drew.size)).size)
      go_wp2_with fail
      go_ret
      exact ⟨by rw [HSR.out]; rfl, hB3⟩
    | false =>
      rw [hcan] at HSR
      go_region_held3 (fun X => X.cell? ⟨w.heap.size, 0, none⟩ = some (.slice (some ⟨b, o, none⟩) n cap) ∧ X.cell? ⟨w.heap.size, 1, none⟩ = some (.int .i64 T) ∧ X.cell? ⟨w.heap.size, 2, none⟩ = some (.int .i64 C))
        (first | go_keep | exact ⟨cell_later hb2 c0, cell_later hb2 c1, cell_later hb2 c2⟩ | exact ⟨cell_later hb3 (cell_later hb2 c0), cell_later hb3 (cell_later hb2 c1), cell_later hb3 (cell_later hb2 c2)⟩)
        (first | (go_at_call 30; refine hr.out.mono ?_; rintro e w2 ⟨rs, rfl, hrs, hb2⟩) | (go_at_call 77; refine (refCanE_any b o n cap T C err l rs [] w2 HL.out HO.out (HA.out.keep (HB1.out.drew.trans (hb2.mono HB1.out.drew.size)) (Nat.le_refl _)) he0 hrs).mono ?_; rintro e w3 ⟨rfl, hb3⟩))
      have hB3 : Below w.heap.size w w3 := (HB1.out.drew.trans (hb2.mono HB1.out.drew.size)).trans (hb3.mono (HB1.out.drew.trans (hb2.mono HB1.out.drew.size)).size)
      go_wp2_with fail
      go_ret
      exact ⟨by rw [HSR.out]; rfl, hB3⟩
  · have hfin : sureL l T C err = askedL l T C err := by unfold sureL; rw [if_pos hf]
    have HF := Lib.hid hfin
    have hne : (askedL l T C err != 0) = true := by simpa using hf
    clear hfin hf hB hA hl
    go_enter Try.func37, Try.ntmps37
    go_wp2_with (go_at_call 28; refine hck.out.mono ?_; rintro e w' ⟨rfl, hb1⟩)
    go_ret
    exact ⟨by rw [HF.out]; rfl, HB.out.trans (hb1.mono HB.out.size)⟩

/-- At most 15 angles, and at most so many if the net is valid. -/
def fewB (l : List Ang) (T C : Int) (m : Int) : Bool := decide (l.length ≤ 15) && (decide (faultL l T C ≠ 0) || decide ((l.length : Int) ≤ m))

set_option maxRecDepth 100000 in
set_option maxHeartbeats 4000000 in
theorem few_any (A : Option Addr) (n cap : Nat) (T C m : Int) (l : List Ang) (w : World) (hn : n ≤ 1000000) (hl : l.length = n) (hA : AngsAt w A l) :
    Calls Try.prog 34 #[.agg #[.slice A n cap, .int .i64 T, .int .i64 C], .int .i64 m] w fun e w' => e = .returned (.bool (fewB l T C m)) ∧ Below w.heap.size w w' := by
  have hB : Below w.heap.size w (w.alloc (.cells #[.slice A n cap, .int .i64 T, .int .i64 C] 24)) := (Below.refl _ _).alloc (Nat.le_refl _) _
  have hn0 := Go.heap_alloc_new w (.cells #[.slice A n cap, .int .i64 T, .int .i64 C] 24)
  have hth := Lib.hid (thin_any A n cap T C (w.alloc (.cells #[.slice A n cap, .int .i64 T, .int .i64 C] 24)))
  have HB := Lib.hid hB
  have HN := Lib.hid hn0
  have HA := Lib.hid hA
  have hfb : fewB l T C m = (decide (n ≤ 15) && (decide (faultL l T C ≠ 0) || decide ((n : Int) ≤ m))) := by unfold fewB; rw [hl]
  have HFB := Lib.hid hfb
  have HL := Lib.hid hl
  clear hB hn0 hA hfb hl
  by_cases h15 : n ≤ 15
  · have hd : decide (n ≤ 15) = true := by simpa using h15
    rw [hd] at hth HFB
    have HFB2 := Lib.hid (show fewB l T C m = (decide (faultL l T C ≠ 0) || decide ((n : Int) ≤ m)) from HFB.out)
    clear hd HFB
    go_enter Try.func34, Try.ntmps34
    go_wp2_with fail
    refine hth.out.mono ?_
    rintro e w1 ⟨rfl, hb1⟩
    have hB1 : Below w.heap.size w w1 := HB.out.trans (hb1.mono HB.out.size)
    have n1 := (hb1.block w.heap.size (by simp)).trans HN.out
    have c0 : w1.cell? ⟨w.heap.size, 0, none⟩ = some (.slice A n cap) := by simp [World.cell?, n1]
    have c1 : w1.cell? ⟨w.heap.size, 1, none⟩ = some (.int .i64 T) := by simp [World.cell?, n1]
    have c2 : w1.cell? ⟨w.heap.size, 2, none⟩ = some (.int .i64 C) := by simp [World.cell?, n1]
    have hf := Lib.hid (refFault_any A n cap T C l w1 hn HL.out (HA.out.keep hB1 (Nat.le_refl _)))
    have HB1 := Lib.hid hB1
    have HN1 := Lib.hid n1
    clear n1 hb1 hB1 hth HB HN
    by_cases h0 : faultL l T C = 0
    · rw [h0] at hf
      have HFB3 := Lib.hid (show fewB l T C m = decide ((n : Int) ≤ m) by rw [HFB2.out, h0]; rfl)
      clear h0 HFB2
      go_wp2_with fail
      refine hf.out.mono ?_
      rintro e w2 ⟨rfl, hb2⟩
      have n2 := (hb2.block w.heap.size (Array.getElem?_eq_some_iff.1 HN1.out).1).trans HN1.out
      have d0 : w2.cell? ⟨w.heap.size, 0, none⟩ = some (.slice A n cap) := by simp [World.cell?, n2]
      have HB2 := Lib.hid (HB1.out.trans (hb2.mono HB1.out.size))
      clear hb2 n2 hf
      go_wp2_with fail
      go_ret
      exact ⟨by rw [HFB3.out]; rfl, HB2.out⟩
    · have hne : (faultL l T C != 0) = true := by simpa using h0
      have HFB3 := Lib.hid (show fewB l T C m = true by rw [HFB2.out, decide_eq_true h0]; rfl)
      clear h0 HFB2
      go_wp2_with fail
      refine hf.out.mono ?_
      rintro e w2 ⟨rfl, hb2⟩
      have HB2 := Lib.hid (HB1.out.trans (hb2.mono HB1.out.size))
      clear hb2 hf
      go_wp2_with fail
      go_ret
      exact ⟨by rw [HFB3.out]; rfl, HB2.out⟩
  · have hd : decide (n ≤ 15) = false := by simpa using h15
    rw [hd] at hth HFB
    have HFB2 := Lib.hid (show fewB l T C m = false from HFB.out)
    clear hd HFB
    go_enter Try.func34, Try.ntmps34
    go_wp2_with fail
    refine hth.out.mono ?_
    rintro e w1 ⟨rfl, hb1⟩
    have HB1 := Lib.hid (HB.out.trans (hb1.mono HB.out.size))
    clear hb1 hth HB HN
    go_wp2_with fail
    go_ret
    exact ⟨by rw [HFB2.out]; rfl, HB1.out⟩

set_option maxRecDepth 100000 in
theorem to_any (lo hi : Int) (w : World) :
    Calls Try.prog 38 #[.agg #[.int .i64 lo, .int .i64 hi]] w fun e w' => e = .returned (.agg #[.int .i64 lo, .int .i64 hi]) ∧ Below w.heap.size w w' := by
  go_enter Try.func38, Try.ntmps38
  go_wp2_with fail
  refine bodyPost_ret (v := .agg #[.int .i64 lo, .int .i64 hi]) (by simp [results, Try.results38, go_sem]) rfl ⟨rfl, ?_⟩
  exact ((Below.refl _ _).alloc (Nat.le_refl _) _).alloc (by simp) _
end Go.Proofs.Ytkloaeaepjoijaa

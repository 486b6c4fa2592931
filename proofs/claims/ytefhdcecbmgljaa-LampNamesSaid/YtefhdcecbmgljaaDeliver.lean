/-
  Deliver, Trim.
-/
import Derived.Test.YtefhdcecbmgljaaBestD
import Derived.Test.YtefhdcecbmgljaaBestT
import Derived.Test.YtefhdcecbmgljaaJobs
import Derived.Test.YtefhdcecbmgljaaCheck2
set_option linter.all false
namespace Go.Proofs.Ytefhdcecbmgljaa
open Go.RowKit Go.WalkArith

/-- How Deliver ends. -/
def DeliverPost (s : St) (wk : List Int) (w : World) (e : Ending) (w' : World) : Prop :=
  Below w.heap.size w w' ∧ ((faultS s ≠ 0 ∧ e = .returned (.tuple #[.slice none 0 0, .int .i64 0, .int .i64 (faultS s)])) ∨
    (faultS s = 0 ∧ wicksB s wk = false ∧ e = .returned (.tuple #[.slice none 0 0, .int .i64 0, .int .i64 2])) ∨
    (faultS s = 0 ∧ wicksB s wk = true ∧ 524288 ≤ chp s (jobD wk) s.ns.length 0 s.sl ∧ e = .returned (.tuple #[.slice none 0 0, .int .i64 0, .int .i64 10])) ∨
    (faultS s = 0 ∧ wicksB s wk = true ∧ chp s (jobD wk) s.ns.length 0 s.sl < 524288 ∧ ∃ v, e = .returned (.tuple #[v, .int .i64 (chp s (jobD wk) s.ns.length 0 s.sl), .int .i64 0]) ∧ w'.ownsRow w.heap.size 3 1 v s.ns.length ((bestL s (jobD wk) s.ns.length 0 s.sl).map (Value.int .i64))))

set_option maxRecDepth 100000 in
set_option maxHeartbeats 4000000 in
theorem deliver_any (s : St) (A : Option Addr) (cp : Nat) (Ak : Option Addr) (ck : Nat) (k : List Int) (w : World) (hn : s.ns.length ≤ 1000000) (hkl : k.length ≤ 1000000) (hA : NtsAt w A s.ns) (hk : IntsAt w (.slice Ak k.length ck) k) :
    Calls Try.prog 33 #[.agg (#[.int .i64 s.cap, .int .i64 s.can, .int .i64 s.sl, .int .i64 s.sh, .slice A s.ns.length cp]), .slice Ak k.length ck] w (DeliverPost s k w) := by
  have hB0 : Below w.heap.size w ((w.alloc (.cells (#[.int .i64 s.cap, .int .i64 s.can, .int .i64 s.sl, .int .i64 s.sh, .slice A s.ns.length cp]) 39)).alloc (.cells #[.slice Ak k.length ck] 27)) := ((Below.refl _ _).alloc (Nat.le_refl _) _).alloc (by simp) _
  have hn0 : ((w.alloc (.cells (#[.int .i64 s.cap, .int .i64 s.can, .int .i64 s.sl, .int .i64 s.sh, .slice A s.ns.length cp]) 39)).alloc (.cells #[.slice Ak k.length ck] 27)).heap[w.heap.size]? = some (.cells (#[.int .i64 s.cap, .int .i64 s.can, .int .i64 s.sl, .int .i64 s.sh, .slice A s.ns.length cp]) 39 (0, 0)) := (Below.heap_alloc _ _ _ (by simp)).trans (heap_new_at _ _ _ rfl)
  have hn1 : ((w.alloc (.cells (#[.int .i64 s.cap, .int .i64 s.can, .int .i64 s.sl, .int .i64 s.sh, .slice A s.ns.length cp]) 39)).alloc (.cells #[.slice Ak k.length ck] 27)).heap[w.heap.size + 1]? = some (.cells #[.slice Ak k.length ck] 27 (0, 0)) := heap_alloc2 _ _ _
  obtain ⟨w1, hw1⟩ : ∃ w1, (w.alloc (.cells (#[.int .i64 s.cap, .int .i64 s.can, .int .i64 s.sl, .int .i64 s.sh, .slice A s.ns.length cp]) 39)).alloc (.cells #[.slice Ak k.length ck] 27) = w1 := ⟨_, rfl⟩
  rw [hw1] at hB0 hn0 hn1
  have hcs := Lib.hid (checkStore_any s A cp w1 hn (hA.keep hB0 (Nat.le_refl _)))
  have HB1 := Lib.hid hB0
  have HN0 := Lib.hid hn0
  have HN1 := Lib.hid hn1
  have HW1 := Lib.hid hw1
  have HA := Lib.hid hA
  have HK := Lib.hid hk
  obtain ⟨Q, hQ⟩ : ∃ Q, faultS s = Q := ⟨_, rfl⟩
  rw [hQ] at hcs
  have HQ := Lib.hid hQ
  clear hw1 hB0 hn0 hn1 hA hk hQ
  go_enter Try.func33, Try.ntmps33
  go_wp2_with fail
  rw [HW1.out]
  with_reducible refine hcs.out.mono ?_
  rintro e w2 ⟨rfl, hb2⟩
  have HB2 := Lib.hid (HB1.out.trans (hb2.mono HB1.out.size))
  have HN02 := Lib.hid ((hb2.block _ (Array.getElem?_eq_some_iff.1 HN0.out).1).trans HN0.out)
  have HN12 := Lib.hid ((hb2.block _ (Array.getElem?_eq_some_iff.1 HN1.out).1).trans HN1.out)
  clear HW1 hcs HB1 HN0 HN1 hb2
  by_cases hq : Q = 0
  · subst hq
    have HOK := Lib.hid (faultS_zero.1 HQ.out)
    have hwi := Lib.hid (wicks_any s A cp (.slice Ak k.length ck) k w2 hn (HA.out.keep HB2.out (Nat.le_refl _)) (HK.out.keep HB2.out (Nat.le_refl _)))
    have b0 : w2.cell? ⟨w.heap.size, 0, none⟩ = some (.int .i64 s.cap) := by simp [World.cell?, HN02.out]
    have b1 : w2.cell? ⟨w.heap.size, 1, none⟩ = some (.int .i64 s.can) := by simp [World.cell?, HN02.out]
    have b2 : w2.cell? ⟨w.heap.size, 2, none⟩ = some (.int .i64 s.sl) := by simp [World.cell?, HN02.out]
    have b3 : w2.cell? ⟨w.heap.size, 3, none⟩ = some (.int .i64 s.sh) := by simp [World.cell?, HN02.out]
    have b4 : w2.cell? ⟨w.heap.size, 4, none⟩ = some (.slice A s.ns.length cp) := by simp [World.cell?, HN02.out]
    have b5 : w2.cell? ⟨w.heap.size + 1, 0, none⟩ = some (.slice Ak k.length ck) := by simp [World.cell?, HN12.out]
    obtain ⟨wb, hwb⟩ : ∃ wb, wicksB s k = wb := ⟨_, rfl⟩
    rw [hwb] at hwi
    have HWB := Lib.hid hwb
    clear hwb
    go_wp2_with fail
    with_reducible refine hwi.out.mono ?_
    rintro e w3 ⟨rfl, hb3⟩
    have HB3 := Lib.hid (HB2.out.trans (hb3.mono HB2.out.size))
    have HN03 := Lib.hid ((hb3.block _ (Array.getElem?_eq_some_iff.1 HN02.out).1).trans HN02.out)
    have HN13 := Lib.hid ((hb3.block _ (Array.getElem?_eq_some_iff.1 HN12.out).1).trans HN12.out)
    clear b0 b1 b2 b3 b4 b5 hwi HB2 HN02 HN12 hb3
    cases wb with
    | false =>
      have hfin : DeliverPost s k w (.returned (.tuple #[.slice none 0 0, .int .i64 0, .int .i64 2])) w3 := ⟨HB3.out, .inr (.inl ⟨HQ.out, HWB.out, rfl⟩)⟩
      have HFIN := Lib.hid hfin
      clear hfin
      go_wp2_with fail
      go_ret3
      exact HFIN.out
    | true =>
      have b0 : w3.cell? ⟨w.heap.size, 0, none⟩ = some (.int .i64 s.cap) := by simp [World.cell?, HN03.out]
      have b1 : w3.cell? ⟨w.heap.size, 1, none⟩ = some (.int .i64 s.can) := by simp [World.cell?, HN03.out]
      have b2 : w3.cell? ⟨w.heap.size, 2, none⟩ = some (.int .i64 s.sl) := by simp [World.cell?, HN03.out]
      have b3 : w3.cell? ⟨w.heap.size, 3, none⟩ = some (.int .i64 s.sh) := by simp [World.cell?, HN03.out]
      have b4 : w3.cell? ⟨w.heap.size, 4, none⟩ = some (.slice A s.ns.length cp) := by simp [World.cell?, HN03.out]
      have hlb := World.block_lt_of_cell? w3 _ b0
      have hmm := @run_makeMap Try.prog
      have hW0 : Below w3.heap.size w3 ((w3.alloc (.map #[] 0)).alloc (.cells (wkCellsD s A cp w.heap.size (w.heap.size + 1) w3.heap.size) 131)) := ((Below.refl _ _).alloc (Nat.le_refl _) _).alloc (by simp) _
      have henv : WkEnvD w3 (w3.heap.size + 1) w3.heap.size s A cp w.heap.size (w.heap.size + 1) ((w3.alloc (.map #[] 0)).alloc (.cells (wkCellsD s A cp w.heap.size (w.heap.size + 1) w3.heap.size) 131)) :=
        ⟨heap_alloc2 _ _ _, hW0.block, hW0.size, by omega, Nat.le_refl _, HA.out.keep HB3.out (Nat.le_refl _)⟩
      have hmap : SpotMap ((w3.alloc (.map #[] 0)).alloc (.cells (wkCellsD s A cp w.heap.size (w.heap.size + 1) w3.heap.size) 131)) w3.heap.size (fun _ _ => none) := (SpotMap.new w3).of_block (Below.heap_alloc _ _ _ (by simp))
      have hjf : JobFD w3 s (jobD k) w.heap.size (w.heap.size + 1) := jobFD _ HWB.out HN13.out (HK.out.keep HB3.out (Nat.le_refl _))
      have hbest := bestD_any w3 (w3.heap.size + 1) w3.heap.size s (jobD k) A cp w.heap.size (w.heap.size + 1) HOK.out (jobD_s HOK.out HWB.out) (jobD_ok k) hjf _ _ henv hmap (fun _ _ _ h => by cases h)
      unfold wkCellsD at hbest hW0
      have HBEST := Lib.hid hbest
      have HBW := Lib.hid hW0
      clear hW0 henv hmap hjf hbest
      go_wp2_with fail
      with_reducible refine HBEST.out.mono ?_
      clear HBEST b0 b1 b2 b3 b4
      rintro e w4 ⟨hmk, hcase⟩
      have HB4 := Lib.hid (HB3.out.trans ((hmk.below HBW.out (Nat.le_refl _) HBW.out.size).mono HB3.out.size))
      have hws := HB3.out.size
      have hws2 := HBW.out.size
      obtain ⟨T, hT⟩ : ∃ T, chp s (jobD k) s.ns.length 0 s.sl = T := ⟨_, rfl⟩
      rw [hT] at hcase
      have HT := Lib.hid hT
      clear hmk hT
      rcases hcase with ⟨hge, rfl⟩ | ⟨hlt, v, rfl, hown⟩
      · have hfin : DeliverPost s k w (.returned (.tuple #[.slice none 0 0, .int .i64 0, .int .i64 10])) w4 := ⟨HB4.out, .inr (.inr (.inl ⟨HQ.out, HWB.out, by rw [HT.out]; exact hge, rfl⟩))⟩
        have HFIN := Lib.hid hfin
        clear hfin
        go_wp2_with fail
        go_ret3
        exact HFIN.out
      · have hfin : DeliverPost s k w (.returned (.tuple #[v, .int .i64 T, .int .i64 0])) w4 := ⟨HB4.out, .inr (.inr (.inr ⟨HQ.out, HWB.out, by rw [HT.out]; exact hlt, v, by rw [HT.out], hown.lower (by omega)⟩))⟩
        have HFIN := Lib.hid hfin
        clear hfin hown
        go_wp2_with fail
        go_ret3
        exact HFIN.out
  · have hne : (Q != 0) = true := by simpa using hq
    have hfin : DeliverPost s k w (.returned (.tuple #[.slice none 0 0, .int .i64 0, .int .i64 Q])) w2 := ⟨HB2.out, .inl ⟨by rw [HQ.out]; exact hq, by rw [HQ.out]⟩⟩
    have HFIN := Lib.hid hfin
    clear hfin hq
    go_wp2_with fail
    go_ret3
    exact HFIN.out
/-- How Trim ends. -/
def TrimPost (s : St) (wk : List Int) (w : World) (e : Ending) (w' : World) : Prop :=
  Below w.heap.size w w' ∧ ((faultS s ≠ 0 ∧ e = .returned (.tuple #[.slice none 0 0, .int .i64 0, .int .i64 (faultS s)])) ∨
    (faultS s = 0 ∧ cansB s wk = false ∧ e = .returned (.tuple #[.slice none 0 0, .int .i64 0, .int .i64 2])) ∨
    (faultS s = 0 ∧ cansB s wk = true ∧ 524288 ≤ chp s (jobT s wk) s.ns.length 0 s.sl ∧ e = .returned (.tuple #[.slice none 0 0, .int .i64 0, .int .i64 10])) ∨
    (faultS s = 0 ∧ cansB s wk = true ∧ chp s (jobT s wk) s.ns.length 0 s.sl < 524288 ∧ ∃ v, e = .returned (.tuple #[v, .int .i64 (-chp s (jobT s wk) s.ns.length 0 s.sl), .int .i64 0]) ∧ w'.ownsRow w.heap.size 3 1 v s.ns.length ((bestL s (jobT s wk) s.ns.length 0 s.sl).map (Value.int .i64))))

set_option maxRecDepth 100000 in
set_option maxHeartbeats 4000000 in
theorem trim_any (s : St) (A : Option Addr) (cp : Nat) (Ak : Option Addr) (ck : Nat) (k : List Int) (w : World) (hn : s.ns.length ≤ 1000000) (hkl : k.length ≤ 1000000) (hA : NtsAt w A s.ns) (hk : IntsAt w (.slice Ak k.length ck) k) :
    Calls Try.prog 38 #[.agg (#[.int .i64 s.cap, .int .i64 s.can, .int .i64 s.sl, .int .i64 s.sh, .slice A s.ns.length cp]), .slice Ak k.length ck] w (TrimPost s k w) := by
  have hB0 : Below w.heap.size w ((w.alloc (.cells (#[.int .i64 s.cap, .int .i64 s.can, .int .i64 s.sl, .int .i64 s.sh, .slice A s.ns.length cp]) 39)).alloc (.cells #[.slice Ak k.length ck] 27)) := ((Below.refl _ _).alloc (Nat.le_refl _) _).alloc (by simp) _
  have hn0 : ((w.alloc (.cells (#[.int .i64 s.cap, .int .i64 s.can, .int .i64 s.sl, .int .i64 s.sh, .slice A s.ns.length cp]) 39)).alloc (.cells #[.slice Ak k.length ck] 27)).heap[w.heap.size]? = some (.cells (#[.int .i64 s.cap, .int .i64 s.can, .int .i64 s.sl, .int .i64 s.sh, .slice A s.ns.length cp]) 39 (0, 0)) := (Below.heap_alloc _ _ _ (by simp)).trans (heap_new_at _ _ _ rfl)
  have hn1 : ((w.alloc (.cells (#[.int .i64 s.cap, .int .i64 s.can, .int .i64 s.sl, .int .i64 s.sh, .slice A s.ns.length cp]) 39)).alloc (.cells #[.slice Ak k.length ck] 27)).heap[w.heap.size + 1]? = some (.cells #[.slice Ak k.length ck] 27 (0, 0)) := heap_alloc2 _ _ _
  obtain ⟨w1, hw1⟩ : ∃ w1, (w.alloc (.cells (#[.int .i64 s.cap, .int .i64 s.can, .int .i64 s.sl, .int .i64 s.sh, .slice A s.ns.length cp]) 39)).alloc (.cells #[.slice Ak k.length ck] 27) = w1 := ⟨_, rfl⟩
  rw [hw1] at hB0 hn0 hn1
  have hcs := Lib.hid (checkStore_any s A cp w1 hn (hA.keep hB0 (Nat.le_refl _)))
  have HB1 := Lib.hid hB0
  have HN0 := Lib.hid hn0
  have HN1 := Lib.hid hn1
  have HW1 := Lib.hid hw1
  have HA := Lib.hid hA
  have HK := Lib.hid hk
  obtain ⟨Q, hQ⟩ : ∃ Q, faultS s = Q := ⟨_, rfl⟩
  rw [hQ] at hcs
  have HQ := Lib.hid hQ
  clear hw1 hB0 hn0 hn1 hA hk hQ
  go_enter Try.func38, Try.ntmps38
  go_wp2_with fail
  rw [HW1.out]
  with_reducible refine hcs.out.mono ?_
  rintro e w2 ⟨rfl, hb2⟩
  have HB2 := Lib.hid (HB1.out.trans (hb2.mono HB1.out.size))
  have HN02 := Lib.hid ((hb2.block _ (Array.getElem?_eq_some_iff.1 HN0.out).1).trans HN0.out)
  have HN12 := Lib.hid ((hb2.block _ (Array.getElem?_eq_some_iff.1 HN1.out).1).trans HN1.out)
  clear HW1 hcs HB1 HN0 HN1 hb2
  by_cases hq : Q = 0
  · subst hq
    have HOK := Lib.hid (faultS_zero.1 HQ.out)
    have hwi := Lib.hid (cans_any s A cp (.slice Ak k.length ck) k w2 hn hkl (HK.out.keep HB2.out (Nat.le_refl _)))
    have b0 : w2.cell? ⟨w.heap.size, 0, none⟩ = some (.int .i64 s.cap) := by simp [World.cell?, HN02.out]
    have b1 : w2.cell? ⟨w.heap.size, 1, none⟩ = some (.int .i64 s.can) := by simp [World.cell?, HN02.out]
    have b2 : w2.cell? ⟨w.heap.size, 2, none⟩ = some (.int .i64 s.sl) := by simp [World.cell?, HN02.out]
    have b3 : w2.cell? ⟨w.heap.size, 3, none⟩ = some (.int .i64 s.sh) := by simp [World.cell?, HN02.out]
    have b4 : w2.cell? ⟨w.heap.size, 4, none⟩ = some (.slice A s.ns.length cp) := by simp [World.cell?, HN02.out]
    have b5 : w2.cell? ⟨w.heap.size + 1, 0, none⟩ = some (.slice Ak k.length ck) := by simp [World.cell?, HN12.out]
    obtain ⟨wb, hwb⟩ : ∃ wb, cansB s k = wb := ⟨_, rfl⟩
    rw [hwb] at hwi
    have HWB := Lib.hid hwb
    clear hwb
    go_wp2_with fail
    with_reducible refine hwi.out.mono ?_
    rintro e w3 ⟨rfl, hb3⟩
    have HB3 := Lib.hid (HB2.out.trans (hb3.mono HB2.out.size))
    have HN03 := Lib.hid ((hb3.block _ (Array.getElem?_eq_some_iff.1 HN02.out).1).trans HN02.out)
    have HN13 := Lib.hid ((hb3.block _ (Array.getElem?_eq_some_iff.1 HN12.out).1).trans HN12.out)
    clear b0 b1 b2 b3 b4 b5 hwi HB2 HN02 HN12 hb3
    cases wb with
    | false =>
      have hfin : TrimPost s k w (.returned (.tuple #[.slice none 0 0, .int .i64 0, .int .i64 2])) w3 := ⟨HB3.out, .inr (.inl ⟨HQ.out, HWB.out, rfl⟩)⟩
      have HFIN := Lib.hid hfin
      clear hfin
      go_wp2_with fail
      go_ret3
      exact HFIN.out
    | true =>
      have b0 : w3.cell? ⟨w.heap.size, 0, none⟩ = some (.int .i64 s.cap) := by simp [World.cell?, HN03.out]
      have b1 : w3.cell? ⟨w.heap.size, 1, none⟩ = some (.int .i64 s.can) := by simp [World.cell?, HN03.out]
      have b2 : w3.cell? ⟨w.heap.size, 2, none⟩ = some (.int .i64 s.sl) := by simp [World.cell?, HN03.out]
      have b3 : w3.cell? ⟨w.heap.size, 3, none⟩ = some (.int .i64 s.sh) := by simp [World.cell?, HN03.out]
      have b4 : w3.cell? ⟨w.heap.size, 4, none⟩ = some (.slice A s.ns.length cp) := by simp [World.cell?, HN03.out]
      have hlb := World.block_lt_of_cell? w3 _ b0
      have hmm := @run_makeMap Try.prog
      have hW0 : Below w3.heap.size w3 ((w3.alloc (.map #[] 0)).alloc (.cells (wkCellsT s A cp w.heap.size (w.heap.size + 1) w3.heap.size) 131)) := ((Below.refl _ _).alloc (Nat.le_refl _) _).alloc (by simp) _
      have henv : WkEnvT w3 (w3.heap.size + 1) w3.heap.size s A cp w.heap.size (w.heap.size + 1) ((w3.alloc (.map #[] 0)).alloc (.cells (wkCellsT s A cp w.heap.size (w.heap.size + 1) w3.heap.size) 131)) :=
        ⟨heap_alloc2 _ _ _, hW0.block, hW0.size, by omega, Nat.le_refl _, HA.out.keep HB3.out (Nat.le_refl _)⟩
      have hmap : SpotMap ((w3.alloc (.map #[] 0)).alloc (.cells (wkCellsT s A cp w.heap.size (w.heap.size + 1) w3.heap.size) 131)) w3.heap.size (fun _ _ => none) := (SpotMap.new w3).of_block (Below.heap_alloc _ _ _ (by simp))
      have hjf : JobFT w3 s (jobT s k) w.heap.size (w.heap.size + 1) := jobFT HOK.out HWB.out HN03.out (HA.out.keep HB3.out (Nat.le_refl _)) HN13.out (HK.out.keep HB3.out (Nat.le_refl _))
      have hbest := bestT_any w3 (w3.heap.size + 1) w3.heap.size s (jobT s k) A cp w.heap.size (w.heap.size + 1) HOK.out (jobT_s HOK.out HWB.out) (jobT_ok HOK.out k) hjf _ _ henv hmap (fun _ _ _ h => by cases h)
      unfold wkCellsT at hbest hW0
      have HBEST := Lib.hid hbest
      have HBW := Lib.hid hW0
      clear hW0 henv hmap hjf hbest
      go_wp2_with fail
      with_reducible refine HBEST.out.mono ?_
      clear HBEST b0 b1 b2 b3 b4
      rintro e w4 ⟨hmk, hcase⟩
      have HB4 := Lib.hid (HB3.out.trans ((hmk.below HBW.out (Nat.le_refl _) HBW.out.size).mono HB3.out.size))
      have hws := HB3.out.size
      have hws2 := HBW.out.size
      obtain ⟨T, hT⟩ : ∃ T, chp s (jobT s k) s.ns.length 0 s.sl = T := ⟨_, rfl⟩
      rw [hT] at hcase
      have HT := Lib.hid hT
      clear hmk hT
      rcases hcase with ⟨hge, rfl⟩ | ⟨hlt, v, rfl, hown⟩
      · have hfin : TrimPost s k w (.returned (.tuple #[.slice none 0 0, .int .i64 0, .int .i64 10])) w4 := ⟨HB4.out, .inr (.inr (.inl ⟨HQ.out, HWB.out, by rw [HT.out]; exact hge, rfl⟩))⟩
        have HFIN := Lib.hid hfin
        clear hfin
        go_wp2_with fail
        go_ret3
        exact HFIN.out
      · have hfin : TrimPost s k w (.returned (.tuple #[v, .int .i64 (-T), .int .i64 0])) w4 := ⟨HB4.out, .inr (.inr (.inr ⟨HQ.out, HWB.out, by rw [HT.out]; exact hlt, v, by rw [HT.out], hown.lower (by omega)⟩))⟩
        have HFIN := Lib.hid hfin
        clear hfin hown
        have hTb : -10000 ≤ T ∧ T ≤ 1048576 := by rw [← HT.out]; exact chp_bd (jobT_ok HOK.out k) _ _ _ HOK.out.len
        go_wp2_with fail
        go_ret3
        exact HFIN.out
  · have hne : (Q != 0) = true := by simpa using hq
    have hfin : TrimPost s k w (.returned (.tuple #[.slice none 0 0, .int .i64 0, .int .i64 Q])) w2 := ⟨HB2.out, .inl ⟨by rw [HQ.out]; exact hq, by rw [HQ.out]⟩⟩
    have HFIN := Lib.hid hfin
    clear hfin hq
    go_wp2_with fail
    go_ret3
    exact HFIN.out
end Go.Proofs.Ytefhdcecbmgljaa

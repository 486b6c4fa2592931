/-
  Leave.
-/
import Derived.Test.YtefhdcecbmgljaaLeaveB
import Derived.Test.YtefhdcecbmgljaaOil
set_option linter.all false
namespace Go.Proofs.Ytefhdcecbmgljaa
open Go.RowKit Go.WalkArith

/-- How Leave ends. -/
def LeavePost (s : St) (c k : List Int) (dips : List Dp) (w : World) (e : Ending) (w' : World) : Prop :=
  Below w.heap.size w w' ∧ ((dippedL s c k dips ≠ 0 ∧ e = .returned (.tuple #[.slice none 0 0, .int .i64 (dippedL s c k dips)])) ∨
    (dippedL s c k dips = 0 ∧ ∃ v, e = .returned (.tuple #[v, .int .i64 0]) ∧ w'.ownsRow w.heap.size 3 1 v (leaveL s (atL c) (atL k) dips).length ((leaveL s (atL c) (atL k) dips).map (Value.int .i64))))
theorem LvE.below {W0 w W : World} {Bf : Nat} (h : LvE W0 Bf W) (hbo : w.heap.size ≤ Bf) (hb : Below w.heap.size w W0) : Below w.heap.size w W :=
  ⟨h.os.trans hb.os, h.tape.trans hb.tape, h.output.trans hb.output, Nat.le_trans hb.size h.size, fun k hk => (h.same k (Nat.lt_of_lt_of_le hk hb.size) (by omega)).trans (hb.block k hk)⟩
theorem NtsAt.blocks {W W' : World} {A : Option Addr} {l : List Nt} (h : NtsAt W A l) (hk : ∀ j, j < W.heap.size → W'.heap[j]? = W.heap[j]?) : NtsAt W' A l := by
  rcases h with h | ⟨b, o, h1, h2⟩
  · exact .inl h
  · refine .inr ⟨b, o, h1, fun i hi => ?_⟩
    obtain ⟨a0, a1, a2, a3, a4⟩ := h2 i hi
    have hc := fun j => World.cell?_of_block (a := ⟨b, j, none⟩) (hk b (World.block_lt_of_cell? W _ a0))
    exact ⟨(hc _).trans a0, (hc _).trans a1, (hc _).trans a2, (hc _).trans a3, (hc _).trans a4⟩
theorem DpsAt.blocks {W W' : World} {A : Option Addr} {l : List Dp} (h : DpsAt W A l) (hk : ∀ j, j < W.heap.size → W'.heap[j]? = W.heap[j]?) : DpsAt W' A l := by
  rcases h with h | ⟨b, o, h1, h2⟩
  · exact .inl h
  · refine .inr ⟨b, o, h1, fun i hi => ?_⟩
    obtain ⟨a0, a1, a2⟩ := h2 i hi
    have hc := fun j => World.cell?_of_block (a := ⟨b, j, none⟩) (hk b (World.block_lt_of_cell? W _ a0))
    exact ⟨(hc _).trans a0, (hc _).trans a1, (hc _).trans a2⟩
theorem IntsAt.blocks {W W' : World} {v : Value} {xs : List Int} (h : IntsAt W v xs) (hk : ∀ j, j < W.heap.size → W'.heap[j]? = W.heap[j]?) : IntsAt W' v xs := by
  obtain ⟨A, cap, h1, h2⟩ := h
  refine ⟨A, cap, h1, ?_⟩
  rcases h2 with h2 | ⟨b, o, h3, h4⟩
  · exact .inl h2
  · exact .inr ⟨b, o, h3, fun i hi => (World.cell?_of_block (a := ⟨b, o + i, none⟩) (hk b (World.block_lt_of_cell? W _ (h4 i hi)))).trans (h4 i hi)⟩
def SRel (W0 : World) (Bf n : Nat) (f : Nat → Option (List Int)) (i : Value) (wr : World) : Prop :=
  ∃ j : Nat, j ≤ n + 1 ∧ i = .int .i64 j ∧ (∀ q, q < j → f q = none) ∧ LvE W0 Bf wr

set_option maxRecDepth 100000 in
set_option maxHeartbeats 4000000 in
theorem leaveAll_any (s : St) (A : Option Addr) (cp : Nat) (Ac Ak : Option Addr) (cc ck : Nat) (c k : List Int) (Ad : Option Addr) (cd : Nat) (dips : List Dp) (w : World) (hn : s.ns.length ≤ 1000000) (hcl : c.length ≤ 1000000) (hkl : k.length ≤ 1000000) (hdl : dips.length ≤ 1000000) (hA : NtsAt w A s.ns) (hc : IntsAt w (.slice Ac c.length cc) c) (hk : IntsAt w (.slice Ak k.length ck) k) (hd : DpsAt w Ad dips) :
    Calls Try.prog 30 #[.agg (#[.int .i64 s.cap, .int .i64 s.can, .int .i64 s.sl, .int .i64 s.sh, .slice A s.ns.length cp]), .agg (#[.slice Ac c.length cc, .slice Ak k.length ck]), .slice Ad dips.length cd] w (LeavePost s c k dips w) := by
  have hB0 : Below w.heap.size w (((w.alloc (.cells (#[.int .i64 s.cap, .int .i64 s.can, .int .i64 s.sl, .int .i64 s.sh, .slice A s.ns.length cp]) 39)).alloc (.cells (#[.slice Ac c.length cc, .slice Ak k.length ck]) 44)).alloc (.cells #[.slice Ad dips.length cd] 60)) := (((Below.refl _ _).alloc (Nat.le_refl _) _).alloc (by simp) _).alloc (by simp; omega) _
  have hn0 : (((w.alloc (.cells (#[.int .i64 s.cap, .int .i64 s.can, .int .i64 s.sl, .int .i64 s.sh, .slice A s.ns.length cp]) 39)).alloc (.cells (#[.slice Ac c.length cc, .slice Ak k.length ck]) 44)).alloc (.cells #[.slice Ad dips.length cd] 60)).heap[w.heap.size]? = some (.cells (#[.int .i64 s.cap, .int .i64 s.can, .int .i64 s.sl, .int .i64 s.sh, .slice A s.ns.length cp]) 39 (0, 0)) := (Below.heap_alloc _ _ _ (by simp <;> omega)).trans ((Below.heap_alloc _ _ _ (by simp <;> omega)).trans (heap_new_at _ _ _ rfl))
  have hn1 : (((w.alloc (.cells (#[.int .i64 s.cap, .int .i64 s.can, .int .i64 s.sl, .int .i64 s.sh, .slice A s.ns.length cp]) 39)).alloc (.cells (#[.slice Ac c.length cc, .slice Ak k.length ck]) 44)).alloc (.cells #[.slice Ad dips.length cd] 60)).heap[w.heap.size + 1]? = some (.cells (#[.slice Ac c.length cc, .slice Ak k.length ck]) 44 (0, 0)) := (Below.heap_alloc _ _ _ (by simp <;> omega)).trans (heap_new_at _ _ _ (by simp))
  have hn2 : (((w.alloc (.cells (#[.int .i64 s.cap, .int .i64 s.can, .int .i64 s.sl, .int .i64 s.sh, .slice A s.ns.length cp]) 39)).alloc (.cells (#[.slice Ac c.length cc, .slice Ak k.length ck]) 44)).alloc (.cells #[.slice Ad dips.length cd] 60)).heap[w.heap.size + 1 + 1]? = some (.cells #[.slice Ad dips.length cd] 60 (0, 0)) := heap_new_at _ _ _ (by simp)
  obtain ⟨w1, hw1⟩ : ∃ w1, ((w.alloc (.cells (#[.int .i64 s.cap, .int .i64 s.can, .int .i64 s.sl, .int .i64 s.sh, .slice A s.ns.length cp]) 39)).alloc (.cells (#[.slice Ac c.length cc, .slice Ak k.length ck]) 44)).alloc (.cells #[.slice Ad dips.length cd] 60) = w1 := ⟨_, rfl⟩
  rw [hw1] at hB0 hn0 hn1 hn2
  have hdp := Lib.hid (dipped_any s A cp Ac Ak cc ck c k Ad cd dips w1 hn hcl hkl hdl (hA.keep hB0 (Nat.le_refl _)) (hc.keep hB0 (Nat.le_refl _)) (hk.keep hB0 (Nat.le_refl _)) (hd.keep hB0 (Nat.le_refl _)))
  have HB1 := Lib.hid hB0
  have HN0 := Lib.hid hn0
  have HN1 := Lib.hid hn1
  have HN2 := Lib.hid hn2
  have HW1 := Lib.hid hw1
  have HA := Lib.hid hA
  have HC := Lib.hid hc
  have HK := Lib.hid hk
  have HD := Lib.hid hd
  obtain ⟨Q, hQ⟩ : ∃ Q, dippedL s c k dips = Q := ⟨_, rfl⟩
  rw [hQ] at hdp
  have HQ := Lib.hid hQ
  clear hw1 hB0 hn0 hn1 hn2 hA hc hk hd hQ
  by_cases hq : Q = 0
  · subst hq
    go_enter Try.func30, Try.ntmps30
    go_wp2_with fail
    go_step3
    go_wp2_with fail
    rw [HW1.out]
    with_reducible refine hdp.out.mono ?_
    rintro e w2 ⟨rfl, hb2⟩
    have HB2 := Lib.hid (HB1.out.trans (hb2.mono HB1.out.size))
    have HN02 := Lib.hid ((hb2.block _ (Array.getElem?_eq_some_iff.1 HN0.out).1).trans HN0.out)
    have HN12 := Lib.hid ((hb2.block _ (Array.getElem?_eq_some_iff.1 HN1.out).1).trans HN1.out)
    have HN22 := Lib.hid ((hb2.block _ (Array.getElem?_eq_some_iff.1 HN2.out).1).trans HN2.out)
    have hs2 := (Array.getElem?_eq_some_iff.1 HN22.out).1
    clear HW1 hdp HB1 HN0 HN1 HN2 hb2
    have hpl := dippedL_zero HQ.out
    have HPL := Lib.hid hpl.1
    have hd6 := hpl.2
    have HOK := Lib.hid (planL_zero.1 hpl.1).1
    clear hpl
    obtain ⟨W0, hW0⟩ : ∃ W0, (w2.alloc (.cells #[.slice none 0 0] 27)).alloc (.cells #[(.func (.func 72) #[] #[.pointer (some ⟨w.heap.size + 1 + 1, 0, none⟩), .pointer (some ⟨w2.heap.size, 0, none⟩), .pointer (some ⟨w.heap.size, 0, none⟩), .pointer (some ⟨w.heap.size + 1, 0, none⟩), .pointer (some ⟨w2.heap.size + 1, 0, none⟩)])] 120) = W0 := ⟨_, rfl⟩
    have hBW : Below w2.heap.size w2 W0 := by rw [← hW0]; exact ((Below.refl _ _).alloc (Nat.le_refl _) _).alloc (by simp) _
    have hO : W0.heap[w2.heap.size]? = some (.cells #[.slice none 0 0] 27 (0, 0)) := by rw [← hW0]; exact (Below.heap_alloc _ _ _ (by simp)).trans (heap_new_at _ _ _ rfl)
    have hF : W0.heap[w2.heap.size + 1]? = some (.cells #[(.func (.func 72) #[] #[.pointer (some ⟨w.heap.size + 1 + 1, 0, none⟩), .pointer (some ⟨w2.heap.size, 0, none⟩), .pointer (some ⟨w.heap.size, 0, none⟩), .pointer (some ⟨w.heap.size + 1, 0, none⟩), .pointer (some ⟨w2.heap.size + 1, 0, none⟩)])] 120 (0, 0)) := by rw [← hW0]; exact heap_alloc2 _ _ _
    have hszW : W0.heap.size = w2.heap.size + 2 := by rw [← hW0]; simp
    have HW0 := Lib.hid hW0
    have hcap : LvCap W0 (w.heap.size + 1 + 1) w2.heap.size w.heap.size (w.heap.size + 1) (w2.heap.size + 1) s A cp Ac Ak Ad cc ck cd c k dips :=
      ⟨(hBW.block _ (by omega)).trans HN22.out, (hBW.block _ (by omega)).trans HN02.out, (hBW.block _ (by omega)).trans HN12.out, hF, by omega, by omega, by omega, by omega, by omega, fun X hX => by
        have hblk : ∀ j, j < w.heap.size → X.heap[j]? = w.heap[j]? := fun j hj => (hX j (by omega) (by omega)).trans ((hBW.block j (by omega)).trans (HB2.out.block j hj))
        exact ⟨HA.out.blocks hblk, HC.out.blocks hblk, HK.out.blocks hblk, HD.out.blocks hblk⟩⟩
    have hE0 : LvE W0 w2.heap.size W0 := ⟨rfl, rfl, rfl, Nat.le_refl _, fun _ _ _ => rfl, _, hO⟩
    have HCP := Lib.hid hcap
    have HE0 := Lib.hid hE0
    have HBW := Lib.hid hBW
    have c0 : w2.cell? ⟨w.heap.size + 1 + 1, 0, none⟩ = some (.slice Ad dips.length cd) := by simp [World.cell?, HN22.out]
    clear hW0 hBW hO hF hcap hE0 HN02 HN12 HN22
    go_wp2_with fail
    go_step3
    rw [HW0.out]
    have x0 : W0.cell? ⟨w.heap.size + 1 + 1, 0, none⟩ = some (.slice Ad dips.length cd) := by simp [World.cell?, HCP.out.dp]
    go_wp2_with fail
    clear HW0 c0 x0
    obtain ⟨Bl, hBl⟩ : ∃ Bl, w2.heap.size + 1 = Bl := ⟨_, rfl⟩
    obtain ⟨Bf, hBf⟩ : ∃ Bf, w2.heap.size = Bf := ⟨_, rfl⟩
    obtain ⟨Bd, hBd⟩ : ∃ Bd, w.heap.size + 1 + 1 = Bd := ⟨_, rfl⟩
    obtain ⟨Bp, hBp⟩ : ∃ Bp, w.heap.size + 1 = Bp := ⟨_, rfl⟩
    obtain ⟨Bs, hBs⟩ : ∃ Bs, w.heap.size = Bs := ⟨_, rfl⟩
    have hbo : w.heap.size ≤ Bf := by omega
    rw [hBl, hBd, hBp, hBs, hBf] at HCP
    rw [hBl, hBd, hBp, hBf]
    rw [hBf] at HE0 HBW
    obtain ⟨f, hf⟩ : ∃ f : Nat → Option (List Int), (fun m => leaveF (keptB s (atL c) (atL k) dips) dips.length m [] 0) = f := ⟨_, rfl⟩
    have HF := Lib.hid hf
    have hlo : firstSome f (dips.length + 1) 0 = some (leaveL s (atL c) (atL k) dips) := by rw [← hf]; exact (leaveL_spec HOK.out).1
    have HLO := Lib.hid hlo
    clear hf hlo hBl hBd hBp hBf hBs
    go_loopw [23] (SRel W0 Bf dips.length f) (fun i _ => dips.length + 1 - (intOf i).toNat)
    case atStart => exact ⟨0, by omega, rfl, fun q h => by omega, HE0.out⟩
    case round =>
      obtain ⟨j, hj, rfl, hno, hE⟩ := hrel
      have HNO := Lib.hid hno
      have lL := (Array.getElem?_eq_some_iff.1 HCP.out.fn).1
      have hfn := (hE.same Bl lL HCP.out.nl).trans HCP.out.fn
      have d5 : wr.cell? ⟨Bl, 0, none⟩ = some (.func (.func 72) #[] #[.pointer (some ⟨Bd, 0, none⟩), .pointer (some ⟨Bf, 0, none⟩), .pointer (some ⟨Bs, 0, none⟩), .pointer (some ⟨Bp, 0, none⟩), .pointer (some ⟨Bl, 0, none⟩)]) := by simp [World.cell?, hfn]
      have HE := Lib.hid hE
      clear hno hE hfn
      by_cases hlt : j < dips.length + 1
      · have hlt' : decide ((j : Int) < (dips.length : Int) + 1) = true := by simp; omega
        have hcall : Calls Try.prog 72 #[.slice none 0 0, .int .i64 0, .int .i64 j, .pointer (some ⟨Bd, 0, none⟩), .pointer (some ⟨Bf, 0, none⟩), .pointer (some ⟨Bs, 0, none⟩), .pointer (some ⟨Bp, 0, none⟩), .pointer (some ⟨Bl, 0, none⟩)] wr (FPost W0 Bf (f j)) := by
          have h := leave_any Bd Bf Bs Bp Bl s A cp Ac Ak Ad cc ck cd c k dips HPL.out hd6 j W0 0 [] (.slice none 0 0) wr HCP.out (by omega) (by omega) (by simp; omega) (fun _ => rfl) HE.out (World.ownsRow_nil _ _ _ _)
          rw [← HF.out]
          exact h
        have HCALL := Lib.hid hcall
        clear hcall
        go_wp2_with fail
        with_reducible refine HCALL.out.mono ?_
        rintro e w3 ⟨rfl, hE3, hX3⟩
        cases hfk : f j with
        | some xs =>
          have hr : leaveL s (atL c) (atL k) dips = xs := by
            have := HLO.out
            rw [firstSome_some (by omega) (by omega) (fun q _ h => HNO.out q h) hfk] at this
            injection this with this
            exact this.symm
          obtain ⟨v, hv1, hv2⟩ := hX3 xs hfk
          have c3 : w3.cell? ⟨Bf, 0, none⟩ = some v := by simp [World.cell?, hv1]
          have hfin : LeavePost s c k dips w (.returned (.tuple #[v, .int .i64 0])) w3 := ⟨hE3.below hbo (HB2.out.trans (HBW.out.mono (by have := HB2.out.size; omega))), .inr ⟨HQ.out, v, rfl, by rw [hr]; exact hv2.lower (by have := HB2.out.size; omega)⟩⟩
          have HFIN := Lib.hid hfin
          clear hr hfk hE3 hX3 hv1 hv2 hfin d5
          go_wp2_with fail
          first | rw [Exit.noGoto_ret] | skip
          go_ret2
          exact HFIN.out
        | none =>
          have HFK := Lib.hid hfk
          have HE3 := Lib.hid hE3
          clear hfk hE3 hX3 d5
          go_wp2_with fail
          go_roundw
          case rel => exact ⟨j + 1, by omega, by go_num, (fun q h => by
            by_cases e : q = j
            · rw [e]; exact HFK.out
            · exact HNO.out q (by omega)), HE3.out⟩
          case measure => simp [intOf]; omega
      · have hr := firstSome_none (f := f) (m := dips.length + 1) (s := 0) (fun q _ h => HNO.out q (by omega))
        have := HLO.out
        rw [hr] at this
        cases this
  · have hne : (Q != 0) = true := by simpa using hq
    go_enter Try.func30, Try.ntmps30
    go_wp2_with fail
    go_step3
    go_wp2_with fail
    rw [HW1.out]
    with_reducible refine hdp.out.mono ?_
    rintro e w2 ⟨rfl, hb2⟩
    have hfin : LeavePost s c k dips w (.returned (.tuple #[.slice none 0 0, .int .i64 Q])) w2 := ⟨HB1.out.trans (hb2.mono HB1.out.size), .inl ⟨by rw [HQ.out]; exact hq, by rw [HQ.out]⟩⟩
    have HFIN := Lib.hid hfin
    clear hfin hq
    go_wp2_with fail
    rw [Exit.noGoto_ret]
    go_ret2
    exact HFIN.out
end Go.Proofs.Ytefhdcecbmgljaa

/-
  Leave: its closure, by induction over how many are left out.
-/
import Derived.Test.YtefhdcecbmgljaaLeaveA
set_option linter.all false
namespace Go.Proofs.Ytefhdcecbmgljaa
open Go.RowKit Go.WalkArith

theorem own_far {W0 W W' : World} {Bf n : Nat} {v : Value} {xs : List Value} (h : W.ownsRow W0.heap.size 3 1 v n xs) (hE : LvE W Bf W') (hw : Bf < W0.heap.size) : W'.ownsRow W0.heap.size 3 1 v n xs := by
  refine h.kept (row := some Bf) ⟨hE.os, hE.tape, hE.output, hE.size, fun j hj hne => hE.same j hj (fun e => hne (by rw [e]))⟩ ?_
  cases hv : v.ownBlock with
  | none => exact .inl rfl
  | some g => right; intro e; have := (h.lt g hv).1; cases e; omega
theorem LvE.trans {W0 W W' : World} {Bf : Nat} (h : LvE W0 Bf W) (k : LvE W Bf W') : LvE W0 Bf W' :=
  ⟨k.os.trans h.os, k.tape.trans h.tape, k.output.trans h.output, Nat.le_trans h.size k.size, fun j hj hne => (k.same j (Nat.lt_of_lt_of_le hj h.size) hne).trans (h.same j hj hne), k.cell⟩
theorem LvCap.move {W0 W : World} {Bd Bf Bs Bp Bl : Nat} {s : St} {A : Option Addr} {cp : Nat} {Ac Ak Ad : Option Addr} {cc ck cd : Nat} {c k : List Int} {dips : List Dp} (h : LvCap W0 Bd Bf Bs Bp Bl s A cp Ac Ak Ad cc ck cd c k dips) (hE : LvE W0 Bf W) : LvCap W Bd Bf Bs Bp Bl s A cp Ac Ak Ad cc ck cd c k dips := by
  have l := fun {B : Nat} {o : Obj} (hB : W0.heap[B]? = some o) => (Array.getElem?_eq_some_iff.1 hB).1
  exact ⟨(hE.same Bd (l h.dp) h.nd).trans h.dp, (hE.same Bs (l h.st) h.ns).trans h.st, (hE.same Bp (l h.pl) h.np).trans h.pl, (hE.same Bl (l h.fn) h.nl).trans h.fn, h.nd, h.ns, h.np, h.nl, Nat.lt_of_lt_of_le h.lo hE.size,
    fun X hX => h.mem X fun j hj hne => (hX j (Nat.lt_of_lt_of_le hj hE.size) hne).trans (hE.same j hj hne)⟩
def LRel (W0 : World) (Bf : Nat) (v0 : Value) (out : List Int) (f : Nat → Option (List Int)) (start top : Nat) (i : Value) (wr : World) : Prop :=
  ∃ j : Nat, start ≤ j ∧ (j ≤ top ∨ j = start) ∧ i = .int .i64 j ∧ (∀ q, start ≤ q → q < j → f q = none) ∧ LvE W0 Bf wr ∧ wr.ownsRow W0.heap.size 3 1 v0 out.length (out.map (Value.int .i64))

set_option maxRecDepth 100000 in
set_option maxHeartbeats 8000000 in
theorem leave_any (Bd Bf Bs Bp Bl : Nat) (s : St) (A : Option Addr) (cp : Nat) (Ac Ak Ad : Option Addr) (cc ck cd : Nat) (c k : List Int) (dips : List Dp) (hok : planL s c k = 0) (hdl : dips.length ≤ 6) : ∀ (many : Nat) (W0 : World) (start : Nat) (out : List Int) (v : Value) (W : World), LvCap W0 Bd Bf Bs Bp Bl s A cp Ac Ak Ad cc ck cd c k dips → many ≤ 20 → start ≤ 100 → out.length + many ≤ 50 → (out = [] → v = .slice none 0 0) → LvE W0 Bf W → W.ownsRow W0.heap.size 3 1 v out.length (out.map (Value.int .i64)) →
    Calls Try.prog 72 #[v, .int .i64 start, .int .i64 many, .pointer (some ⟨Bd, 0, none⟩), .pointer (some ⟨Bf, 0, none⟩), .pointer (some ⟨Bs, 0, none⟩), .pointer (some ⟨Bp, 0, none⟩), .pointer (some ⟨Bl, 0, none⟩)] W (FPost W0 Bf (leaveF (keptB s (atL c) (atL k) dips) dips.length many out start)) := by
  intro many
  induction many with
  | zero => intro W0 start out v W hcp _ _ ho _ hE hown; exact leave_zero W0 Bd Bf Bs Bp Bl s A cp Ac Ak Ad cc ck cd c k dips hcp hok hdl start out (by omega) v W hE hown
  | succ m ih =>
    intro W0 start out v W hcp hm hst ho hnil hE hown
    have lD := (Array.getElem?_eq_some_iff.1 hcp.dp).1
    have lL := (Array.getElem?_eq_some_iff.1 hcp.fn).1
    have lF := hcp.lo
    obtain ⟨vA, vc, rfl⟩ := (IntsAt.of_own hown).slice
    have IH := Lib.hid ih
    have HCP := Lib.hid hcp
    have HNIL := Lib.hid hnil
    obtain ⟨f, hf⟩ : ∃ f : Nat → Option (List Int), (fun i : Nat => leaveF (keptB s (atL c) (atL k) dips) dips.length m (out ++ [(i : Int)]) (i + 1)) = f := ⟨_, rfl⟩
    have hres : leaveF (keptB s (atL c) (atL k) dips) dips.length (m + 1) out start = firstSome f (dips.length - start) start := by rw [← hf]; rfl
    have HRES := Lib.hid hres
    have HF := Lib.hid hf
    have HE := Lib.hid hE
    have HOWN := Lib.hid hown
    have hm1 : (((m : Int) + 1) == 0) = false := by simp; omega
    rw [show (((m + 1 : Nat)) : Int) = (m : Int) + 1 from by omega]
    have HSZ := hE.size
    clear ih hcp hres hf hE hown hnil
    go_enter Try.func72, Try.ntmps72
    go_wp2_with fail
    go_loopw [17] (LRel W0 Bf (.slice vA out.length vc) out f start dips.length) (fun i _ => dips.length + 1 - (intOf i).toNat)
    case atStart => exact ⟨start, by omega, .inr rfl, rfl, fun q h1 h2 => by omega, HE.out, HOWN.out⟩
    case round =>
      clear HE HOWN
      obtain ⟨j, hj0, hj1, rfl, hno, hE, hown⟩ := hrel
      have HNO := Lib.hid hno
      have hd0 := (hE.same Bd lD HCP.out.nd).trans HCP.out.dp
      have hl0 := (hE.same Bl lL HCP.out.nl).trans HCP.out.fn
      have c0 : wr.cell? ⟨Bd, 0, none⟩ = some (.slice Ad dips.length cd) := by simp [World.cell?, hd0]
      have cL : wr.cell? ⟨Bl, 0, none⟩ = some (.func (.func 72) #[] #[.pointer (some ⟨Bd, 0, none⟩), .pointer (some ⟨Bf, 0, none⟩), .pointer (some ⟨Bs, 0, none⟩), .pointer (some ⟨Bp, 0, none⟩), .pointer (some ⟨Bl, 0, none⟩)]) := by simp [World.cell?, hl0]
      have hsz := hE.size
      have HEW := Lib.hid hE
      have HOWNV := Lib.hid hown
      have HWR := Lib.hid lF
      have hj100 : j ≤ 112 := by omega
      clear hno hd0 hl0 hE hown
      by_cases hlt : j < dips.length
      · have hlt' : decide ((j : Int) < (dips.length : Int)) = true := by simp; omega
        have hcpw := HCP.out.move HEW.out
        have hcall : ∀ (X : World) (v' : Value), LvE wr Bf X → X.ownsRow wr.heap.size 3 1 v' (out ++ [(j : Int)]).length ((out ++ [(j : Int)]).map (Value.int .i64)) →
            Calls Try.prog 72 #[v', .int .i64 ((j : Int) + 1), .int .i64 (m : Int), .pointer (some ⟨Bd, 0, none⟩), .pointer (some ⟨Bf, 0, none⟩), .pointer (some ⟨Bs, 0, none⟩), .pointer (some ⟨Bp, 0, none⟩), .pointer (some ⟨Bl, 0, none⟩)] X (FPost wr Bf (f j)) := by
          intro X v' hX hoX
          have h := IH.out wr (j + 1) (out ++ [(j : Int)]) v' X hcpw (by omega) (by omega) (by simp; omega) (fun h => by simp at h) hX hoX
          rw [show (((j + 1 : Nat)) : Int) = (j : Int) + 1 from by omega] at h
          have hfk : f j = leaveF (keptB s (atL c) (atL k) dips) dips.length m (out ++ [(j : Int)]) (j + 1) := by rw [← HF.out]
          rw [hfk]
          exact h
        have HCALL := Lib.hid hcall
        have hFN : ∀ X : World, LvE wr Bf X → X.cell? ⟨Bl, 0, none⟩ = some (.func (.func 72) #[] #[.pointer (some ⟨Bd, 0, none⟩), .pointer (some ⟨Bf, 0, none⟩), .pointer (some ⟨Bs, 0, none⟩), .pointer (some ⟨Bp, 0, none⟩), .pointer (some ⟨Bl, 0, none⟩)]) := fun X hX => (World.cell?_of_block (a := ⟨Bl, 0, none⟩) (hX.same Bl (by omega) HCP.out.nl)).trans cL
        have HFN := Lib.hid hFN
        have hEr : LvE wr Bf wr := ⟨rfl, rfl, rfl, Nat.le_refl _, fun _ _ _ => rfl, HEW.out.cell⟩
        have HER := Lib.hid hEr
        have w1 : IntKind.i64.wrap ((j : Int) + 1) = (j : Int) + 1 := IntWalk.i64_in _ (by omega)
        have w2 : IntKind.i64.wrap (m : Int) = (m : Int) := IntWalk.i64_in _ (by omega)
        obtain ⟨i0, hi0', hz0', hz1', hz2'⟩ := info_parts Try.info3
        have hi0 := Lib.hid hi0'
        have hz0 := Lib.hid hz0'
        have hz1 := Lib.hid hz1'
        have hz2 := Lib.hid hz2'
        have hon : out.length ≤ 50 := by omega
        clear hcall hFN hEr hcpw hi0' hz0' hz1' hz2'
        go_wp2_with fail
        refine wp_region_held_drew (S := fun X => X.cell? ⟨Bl, 0, none⟩ = some (.func (.func 72) #[] #[.pointer (some ⟨Bd, 0, none⟩), .pointer (some ⟨Bf, 0, none⟩), .pointer (some ⟨Bs, 0, none⟩), .pointer (some ⟨Bp, 0, none⟩), .pointer (some ⟨Bl, 0, none⟩)])) (by kernel_rfl) (cL) (fun hS0 => ?_)
        refine tkH 0 ⟨some 52, .load 120 (.tmp 7), 120, "oil.go:106", #[], none⟩ (v := ?_) hS0 ?_ ?_
        rotate_left
        · intro X x0; go_simp; try with_reducible rfl
        simp only [Act.put, List.setIfInBounds_toArray, List.set_cons_zero, List.set_cons_succ, Array.toArray_toList]
        refine tkH 1 ⟨some 53, .move (.tmp 0), 27, "oil.go:106", #[], none⟩ (v := ?_) hS0 ?_ ?_
        rotate_left
        · intro X x0; go_simp; try with_reducible rfl
        simp only [Act.put, List.setIfInBounds_toArray, List.set_cons_zero, List.set_cons_succ, Array.toArray_toList]
        refine tkH 3 ⟨some 55, .move (.tmp 17), 3, "oil.go:106", #[], none⟩ (v := ?_) hS0 ?_ ?_
        rotate_left
        · intro X x0; go_simp; try with_reducible rfl
        simp only [Act.put, List.setIfInBounds_toArray, List.set_cons_zero, List.set_cons_succ, Array.toArray_toList]
        refine tkH 6 ⟨some 58, .move (.tmp 17), 3, "oil.go:106", #[], none⟩ (v := ?_) hS0 ?_ ?_
        rotate_left
        · intro X x0; go_simp; try with_reducible rfl
        simp only [Act.put, List.setIfInBounds_toArray, List.set_cons_zero, List.set_cons_succ, Array.toArray_toList]
        refine tkH 7 ⟨some 59, .binOp .add 3 (.tmp 58) (.const (.int .i64 1)) 3, 3, "oil.go:106", #[⟨6, .data⟩], none⟩ (v := ?_) hS0 ?_ ?_
        rotate_left
        · intro X x0; go_simp; try with_reducible rfl
        simp only [Act.put, List.setIfInBounds_toArray, List.set_cons_zero, List.set_cons_succ, Array.toArray_toList]
        refine tkH 8 ⟨some 60, .move (.tmp 2), 3, "oil.go:106", #[], none⟩ (v := ?_) hS0 ?_ ?_
        rotate_left
        · intro X x0; go_simp; try with_reducible rfl
        simp only [Act.put, List.setIfInBounds_toArray, List.set_cons_zero, List.set_cons_succ, Array.toArray_toList]
        refine tkH 9 ⟨some 61, .binOp .sub 3 (.tmp 60) (.const (.int .i64 1)) 3, 3, "oil.go:106", #[⟨8, .data⟩], none⟩ (v := ?_) hS0 ?_ ?_
        rotate_left
        · intro X x0; go_simp; try with_reducible rfl
        simp only [Act.put, List.setIfInBounds_toArray, List.set_cons_zero, List.set_cons_succ, Array.toArray_toList]
        clear w1 w2
        refine wpAnyH_ready (rs := [2, 4]) (by kernel_rfl) (by simp) (AllReadyH.cons (o := ⟨some 54, .call ⟨.value (.func 75), #[.tmp 53], #[27]⟩, 27, "oil.go:106", #[⟨1, .data⟩], none⟩) rfl (fun K hK => ?_) (AllReadyH.cons (o := ⟨some 56, .buildSlice 27 1 #[(0, .tmp 55)], 27, "oil.go:106", #[⟨3, .data⟩], none⟩) rfl (fun K hK => ?_) AllReadyH.nil))
        · skip
          go_simp
          with_reducible refine (clone_any (.slice vA out.length vc) out _ (IntsAt.of_own (HOWNV.out.kept (Go_grown_of_below (Below.refl _ wr).drew) (own_none _))) HNIL.out (by omega)).mono ?_
          rintro e w4 ⟨v4, rfl, hown4, hb4⟩
          have hb4' : Below wr.heap.size wr w4 := (Below.refl _ wr).drew.trans hb4
          have HE4 := Lib.hid (HER.out.keep hb4')
          have HOWN4 := Lib.hid hown4
          have hs4 := hb4'.size
          clear hown4 hb4 hb4'
          go_wp2_with fail
          refine hK.out _ _ ((HFN.out _ HE4.out)) (fun hS1 => ?_)
          clear hS0 hK K
          refine wpAnyH_ready (rs := [4]) (by kernel_rfl) (by simp) (AllReadyH.cons (o := ⟨some 56, .buildSlice 27 1 #[(0, .tmp 55)], 27, "oil.go:106", #[⟨3, .data⟩], none⟩) rfl (fun K hK => ?_) AllReadyH.nil)
          go_simp
          refine hK.out _ _ ((HFN.out _ (HE4.out.keep ((Below.refl _ w4).alloc (Nat.le_refl _) _)))) (fun hS2 => ?_)
          clear hS1 hK K
          refine wpAnyH_ready (rs := [5]) (by kernel_rfl) (by simp) (AllReadyH.cons (o := ⟨some 57, .call ⟨.builtin .append, #[.tmp 54, .tmp 56], #[27, 27]⟩, 27, "oil.go:106", #[⟨2, .data⟩, ⟨4, .data⟩, ⟨2, .chain⟩], none⟩) rfl (fun K hK => ?_) AllReadyH.nil)
          refine step_append_lies _ (by rfl) _ _ _ (by rfl) wr.heap.size 3 i0 _ 1 8 Try.underlying27 hi0.out hz0.out hz1.out hz2.out rfl (by omega) v4 out.length _ (by rfl) (HOWN4.out.alloc _) ⟨w4.heap.size, 0, none⟩ 1 1 [.int .i64 j] (by rfl) (by rfl) (World.news_of_block (cs := #[.int .i64 j]) (t := 3) (fr := (0, 0)) (Go.heap_alloc_new w4 _)) (by simp [Value.oneCell']) (by omega) (by unfold maxLen; omega) (by omega) (by simp; omega) (w4.heap.size + 1) (by simp) ?_
          intro gg cap' w5 hown5 hgrow hat hlt5
          have HE5 := Lib.hid ((HE4.out.keep ((Below.refl _ w4).alloc (Nat.le_refl _) (.cells #[.int .i64 j] 3))).grown (by omega) hgrow (fun r e => (HOWN4.out.lt r e).1))
          have HOWN5 := Lib.hid (show w5.ownsRow wr.heap.size 3 1 (.slice (some ⟨gg, 0, none⟩) (out.length + 1) cap') (out ++ [(j : Int)]).length ((out ++ [(j : Int)]).map (Value.int .i64)) by rw [List.map_append, List.length_append]; exact hown5)
          clear hown5 hgrow hat hlt5 HE4 HOWN4
          refine hK.out _ _ ((HFN.out _ HE5.out)) (fun hS3 => ?_)
          clear hS2 hK K
          simp only [Act.put, List.setIfInBounds_toArray, List.set_cons_zero, List.set_cons_succ, Array.toArray_toList]
          refine wpAnyH_ready (rs := [10]) (by kernel_rfl) (by simp) (AllReadyH.cons (o := ⟨some 62, .call ⟨.value (.tmp 52), #[.tmp 57, .tmp 59, .tmp 61], #[27, 3, 3]⟩, 4, "oil.go:106", #[⟨0, .data⟩, ⟨5, .data⟩, ⟨7, .data⟩, ⟨9, .data⟩, ⟨5, .chain⟩], none⟩) rfl (fun K hK => ?_) AllReadyH.nil)
          go_simp
          with_reducible refine (HCALL.out _ _ HE5.out HOWN5.out).mono ?_
          rintro e w6 ⟨rfl, hE6, hX6⟩
          have HEQ := Lib.hid hE6
          have HE6 := Lib.hid (HEW.out.trans hE6)
          have HX6 := Lib.hid (show ∀ xs, f j = some xs → ∃ v, w6.heap[Bf]? = some (.cells #[v] 27 (0, 0)) ∧ w6.ownsRow W0.heap.size 3 1 v xs.length (xs.map (Value.int .i64)) from fun xs h => by
            obtain ⟨v, h1, h2⟩ := hX6 xs h
            exact ⟨v, h1, h2.lower hsz⟩)
          have HOWN6 := Lib.hid (own_far HOWNV.out hE6 HWR.out)
          clear hE6 hX6 HE5 HOWN5
          obtain ⟨fb, hfb⟩ : ∃ fb, (f j).isSome = fb := ⟨_, rfl⟩
          rw [hfb]
          have HFB := Lib.hid hfb
          clear hfb
          go_wp2_with fail
          refine hK.out _ _ ((HFN.out _ HEQ.out)) (fun hS4 => ?_)
          clear hS3 hK K
          refine wpAnyH_done (by kernel_rfl) ?_ _
          clear hS4
          clear c0 cL
          cases fb with
          | true =>
            obtain ⟨xs, hxs⟩ := Option.isSome_iff_exists.1 HFB.out
            have hr : leaveF (keptB s (atL c) (atL k) dips) dips.length (m + 1) out start = some xs := by rw [HRES.out]; exact firstSome_some hj0 (by omega) HNO.out hxs
            have hfin : FPost W0 Bf (leaveF (keptB s (atL c) (atL k) dips) dips.length (m + 1) out start) (.returned (.bool true)) w6 := by rw [hr]; exact ⟨rfl, HE6.out, fun ys h => by cases h; exact HX6.out xs hxs⟩
            have HFIN := Lib.hid hfin
            clear hr hfin hxs
            go_wp2_with fail
            go_ret
            exact HFIN.out
          | false =>
            have hno : f j = none := by
              cases e : f j with
              | none => rfl
              | some x => have := HFB.out; rw [e] at this; cases this
            have HNO2 := Lib.hid hno
            clear hno
            go_wp2_with fail
            go_roundw
            case rel => exact ⟨j + 1, by omega, .inl (by omega), by go_num, (fun q h1 h2 => by
              by_cases e : q = j
              · rw [e]; exact HNO2.out
              · exact HNO.out q h1 (by omega)), HE6.out, HOWN6.out⟩
            case measure => simp [intOf]; omega
        · skip
          go_simp
          refine hK.out _ _ ((HFN.out _ (HER.out.keep (by exact ((Below.refl _ wr).drew).alloc (Nat.le_refl _) _)))) (fun hS1 => ?_)
          clear hS0 hK K
          refine wpAnyH_ready (rs := [2]) (by kernel_rfl) (by simp) (AllReadyH.cons (o := ⟨some 54, .call ⟨.value (.func 75), #[.tmp 53], #[27]⟩, 27, "oil.go:106", #[⟨1, .data⟩], none⟩) rfl (fun K hK => ?_) AllReadyH.nil)
          go_simp
          have hbq : Below wr.heap.size wr (wr.alloc (.cells #[.int .i64 j] 3)).drew := ((Below.refl _ wr).alloc (Nat.le_refl _) _).drew
          with_reducible refine (clone_any (.slice vA out.length vc) out (wr.alloc (.cells #[.int .i64 j] 3)).drew (IntsAt.of_own (HOWNV.out.kept (Go_grown_of_below hbq) (own_none _))) HNIL.out (by omega)).mono ?_
          rintro e w4 ⟨v4, rfl, hown4, hb4⟩
          have hb4' : Below wr.heap.size wr w4 := hbq.trans (hb4.mono hbq.size)
          have HNEW := Lib.hid ((hb4.block _ (by simp)).trans (Go.heap_alloc_new wr (.cells #[.int .i64 j] 3)))
          have HE4 := Lib.hid (HER.out.keep hb4')
          have HOWN4 := Lib.hid (hown4.lower hbq.size)
          have hs4 := hb4'.size
          clear hown4 hb4 hb4' hbq
          go_wp2_with fail
          refine hK.out _ _ ((HFN.out _ HE4.out)) (fun hS2 => ?_)
          clear hS1 hK K
          refine wpAnyH_ready (rs := [5]) (by kernel_rfl) (by simp) (AllReadyH.cons (o := ⟨some 57, .call ⟨.builtin .append, #[.tmp 54, .tmp 56], #[27, 27]⟩, 27, "oil.go:106", #[⟨2, .data⟩, ⟨4, .data⟩, ⟨2, .chain⟩], none⟩) rfl (fun K hK => ?_) AllReadyH.nil)
          refine step_append_lies _ (by rfl) _ _ _ (by rfl) wr.heap.size 3 i0 _ 1 8 Try.underlying27 hi0.out hz0.out hz1.out hz2.out rfl (by omega) v4 out.length _ (by rfl) HOWN4.out ⟨wr.heap.size, 0, none⟩ 1 1 [.int .i64 j] (by rfl) (by rfl) (World.news_of_block (cs := #[.int .i64 j]) (t := 3) (fr := (0, 0)) HNEW.out) (by simp [Value.oneCell']) (by omega) (by unfold maxLen; omega) (by omega) (by omega) w4.heap.size rfl ?_
          intro gg cap' w5 hown5 hgrow hat hlt5
          have HE5 := Lib.hid (HE4.out.grown (by omega) hgrow (fun r e => (HOWN4.out.lt r e).1))
          have HOWN5 := Lib.hid (show w5.ownsRow wr.heap.size 3 1 (.slice (some ⟨gg, 0, none⟩) (out.length + 1) cap') (out ++ [(j : Int)]).length ((out ++ [(j : Int)]).map (Value.int .i64)) by rw [List.map_append, List.length_append]; exact hown5)
          clear hown5 hgrow hat hlt5 HE4 HOWN4
          refine hK.out _ _ ((HFN.out _ HE5.out)) (fun hS3 => ?_)
          clear hS2 hK K
          simp only [Act.put, List.setIfInBounds_toArray, List.set_cons_zero, List.set_cons_succ, Array.toArray_toList]
          refine wpAnyH_ready (rs := [10]) (by kernel_rfl) (by simp) (AllReadyH.cons (o := ⟨some 62, .call ⟨.value (.tmp 52), #[.tmp 57, .tmp 59, .tmp 61], #[27, 3, 3]⟩, 4, "oil.go:106", #[⟨0, .data⟩, ⟨5, .data⟩, ⟨7, .data⟩, ⟨9, .data⟩, ⟨5, .chain⟩], none⟩) rfl (fun K hK => ?_) AllReadyH.nil)
          go_simp
          with_reducible refine (HCALL.out _ _ HE5.out HOWN5.out).mono ?_
          rintro e w6 ⟨rfl, hE6, hX6⟩
          have HEQ := Lib.hid hE6
          have HE6 := Lib.hid (HEW.out.trans hE6)
          have HX6 := Lib.hid (show ∀ xs, f j = some xs → ∃ v, w6.heap[Bf]? = some (.cells #[v] 27 (0, 0)) ∧ w6.ownsRow W0.heap.size 3 1 v xs.length (xs.map (Value.int .i64)) from fun xs h => by
            obtain ⟨v, h1, h2⟩ := hX6 xs h
            exact ⟨v, h1, h2.lower hsz⟩)
          have HOWN6 := Lib.hid (own_far HOWNV.out hE6 HWR.out)
          clear hE6 hX6 HE5 HOWN5
          obtain ⟨fb, hfb⟩ : ∃ fb, (f j).isSome = fb := ⟨_, rfl⟩
          rw [hfb]
          have HFB := Lib.hid hfb
          clear hfb
          go_wp2_with fail
          refine hK.out _ _ ((HFN.out _ HEQ.out)) (fun hS4 => ?_)
          clear hS3 hK K
          refine wpAnyH_done (by kernel_rfl) ?_ _
          clear hS4
          clear c0 cL
          cases fb with
          | true =>
            obtain ⟨xs, hxs⟩ := Option.isSome_iff_exists.1 HFB.out
            have hr : leaveF (keptB s (atL c) (atL k) dips) dips.length (m + 1) out start = some xs := by rw [HRES.out]; exact firstSome_some hj0 (by omega) HNO.out hxs
            have hfin : FPost W0 Bf (leaveF (keptB s (atL c) (atL k) dips) dips.length (m + 1) out start) (.returned (.bool true)) w6 := by rw [hr]; exact ⟨rfl, HE6.out, fun ys h => by cases h; exact HX6.out xs hxs⟩
            have HFIN := Lib.hid hfin
            clear hr hfin hxs
            go_wp2_with fail
            go_ret
            exact HFIN.out
          | false =>
            have hno : f j = none := by
              cases e : f j with
              | none => rfl
              | some x => have := HFB.out; rw [e] at this; cases this
            have HNO2 := Lib.hid hno
            clear hno
            go_wp2_with fail
            go_roundw
            case rel => exact ⟨j + 1, by omega, .inl (by omega), by go_num, (fun q h1 h2 => by
              by_cases e : q = j
              · rw [e]; exact HNO2.out
              · exact HNO.out q h1 (by omega)), HE6.out, HOWN6.out⟩
            case measure => simp [intOf]; omega
      · have hlt' : decide ((j : Int) < (dips.length : Int)) = false := by simp; omega
        have hr : leaveF (keptB s (atL c) (atL k) dips) dips.length (m + 1) out start = none := by rw [HRES.out]; exact firstSome_none (fun q h1 h2 => HNO.out q h1 (by omega))
        have hfin : FPost W0 Bf (leaveF (keptB s (atL c) (atL k) dips) dips.length (m + 1) out start) (.returned (.bool false)) wr := by rw [hr]; exact ⟨rfl, HEW.out, fun xs h => by cases h⟩
        have HFIN := Lib.hid hfin
        clear hr hfin
        go_wp2_with fail
        go_ret
        exact HFIN.out
end Go.Proofs.Ytefhdcecbmgljaa

/-
  Picked, Dipped: a truth, and dips of it, by words; dips that are appended; Oil, whatever the dips say.
-/
import Derived.Test.YtefhdcecbmgljaaOilC
import Derived.Test.YtefhdcecbmgljaaRefI
import Derived.Laws.AppendOwnNone
set_option linter.all false
namespace Go.Proofs.Ytefhdcecbmgljaa
open Go.RowKit Go.WalkArith

/-- The first nights of a truth are within their ranges. -/
def PkOk (s : St) (bs : List Int) : Prop := ∀ i, i < bs.length → (ntAt s i).lo ≤ atL bs i ∧ atL bs i ≤ (ntAt s i).hi
theorem PkOk.snoc {s : St} {bs : List Int} {x : Int} (h : PkOk s bs) (hx : (ntAt s bs.length).lo ≤ x ∧ x ≤ (ntAt s bs.length).hi) : PkOk s (bs ++ [x]) := fun i hi => by
  unfold atL
  simp only [List.getD_eq_getElem?_getD]
  by_cases e : i = bs.length
  · subst e; simpa using hx
  · have hl : i < bs.length := by simp at hi; omega
    rw [List.getElem?_append_left hl]
    have := h i hl
    unfold atL at this
    simpa [List.getD_eq_getElem?_getD] using this
theorem picked_truth {s : St} {t : Int} {bs : List Int} (h0 : s.sl ≤ t) (h1 : t ≤ s.sh) (hl : bs.length = s.ns.length) (h : PkOk s bs) : truthB s t bs = true :=
  truthB_true.2 ⟨hl, h0, h1, fun i hi => h i (by omega)⟩
theorem set_snd {w : World} {B t : Nat} {x y : Value} {fr : Nat × Nat} (h : w.heap[B]? = some (.cells #[x, y] t fr)) (y' : Value) : (w.setCell ⟨B, 1, none⟩ y').heap[B]? = some (.cells #[x, y'] t fr) := by
  obtain ⟨hlt, hg⟩ := Array.getElem?_eq_some_iff.1 h
  simp [World.setCell, hlt, Array.getElem_modify, hg]
def Pk1 (s : St) (w1 : World) (x : Value) (W : World) : Prop := ∃ Bt t, x = .pointer (some ⟨Bt, 0, none⟩) ∧ W.heap[Bt]? = some (.cells #[.int .i64 t, .slice none 0 0] 31 (0, 0)) ∧ s.sl ≤ t ∧ t ≤ s.sh ∧ w1.heap.size ≤ Bt ∧ Below w1.heap.size w1 W
def PkRel (s : St) (w w1 : World) (Bs Br Bt : Nat) (os ob : Obj) (t : Int) (i : Value) (wr : World) : Prop :=
  ∃ (j : Nat) (bs : List Int) (v : Value), j ≤ s.ns.length ∧ i = .int .i64 j ∧ bs.length = j ∧ PkOk s bs ∧ wr.heap[Bs]? = some os ∧ wr.heap[Br]? = some ob ∧ wr.heap[Bt]? = some (.cells #[.int .i64 t, v] 31 (0, 0)) ∧ wr.ownsRow (Bt + 1) 3 1 v bs.length (bs.map (Value.int .i64)) ∧ Below w.heap.size w wr
def PickedPost (s : St) (w : World) (e : Ending) (w' : World) : Prop := ∃ t Ab cb bs, e = .returned (.agg #[.int .i64 t, .slice Ab (List.length bs) cb]) ∧ truthB s t bs = true ∧ IntsAt w' (.slice Ab (List.length bs) cb) bs ∧ NilOk Ab cb ∧ Below w.heap.size w w'

set_option maxRecDepth 100000 in
set_option maxHeartbeats 8000000 in
theorem Picked_any (s : St) (A : Option Addr) (cp : Nat) (v : Value) (ws : List Int) (w : World) (hok : StOk s) (hA : NtsAt w A s.ns) (hw : WordsAt w v ws) (hn : ws.length ≤ 9223372036854775807) :
    Calls Try.prog 43 #[.agg #[.int .i64 s.cap, .int .i64 s.can, .int .i64 s.sl, .int .i64 s.sh, .slice A s.ns.length cp], v] w (PickedPost s w) := by
  have HA := Lib.hid hA
  have HW := Lib.hid hw
  have HOK := Lib.hid hok
  have hword := Lib.hid (fun (W : World) (hb : Below w.heap.size w W) (k : Nat) (hk : k ≤ 1000) => word_any v ws k W (HW.out.keep hb (Nat.le_refl _)) hn hk)
  have hsl := hok.s0
  have hsm := hok.s1
  have hsh := hok.s2
  have hsc := hok.c1
  have h6 := hok.len
  have hpos := hok.pos
  clear hA hw hok
  have hB0 : Below w.heap.size w ((w.alloc (.cells #[.int .i64 s.cap, .int .i64 s.can, .int .i64 s.sl, .int .i64 s.sh, .slice A s.ns.length cp] 26)).alloc (.cells #[.int .i64 0, .slice none 0 0] 31)) := ((Below.refl _ _).alloc (Nat.le_refl _) _).alloc (by simp) _
  have hn0 : ((w.alloc (.cells #[.int .i64 s.cap, .int .i64 s.can, .int .i64 s.sl, .int .i64 s.sh, .slice A s.ns.length cp] 26)).alloc (.cells #[.int .i64 0, .slice none 0 0] 31)).heap[w.heap.size]? = some (.cells #[.int .i64 s.cap, .int .i64 s.can, .int .i64 s.sl, .int .i64 s.sh, .slice A s.ns.length cp] 26 (0, 0)) := (Below.heap_alloc _ _ _ (by simp <;> omega)).trans (heap_new_at _ _ _ rfl)
  have hn1 : ((w.alloc (.cells #[.int .i64 s.cap, .int .i64 s.can, .int .i64 s.sl, .int .i64 s.sh, .slice A s.ns.length cp] 26)).alloc (.cells #[.int .i64 0, .slice none 0 0] 31)).heap[w.heap.size + 1]? = some (.cells #[.int .i64 0, .slice none 0 0] 31 (0, 0)) := heap_new_at _ _ _ (by simp)
  have HB1 := Lib.hid hB0
  have NBs1 := Lib.hid hn0
  have NBr1 := Lib.hid hn1
  clear hB0 hn0 hn1
  go_enter Try.func43, Try.ntmps43
  go_wp2_with fail
  generalize ((w.alloc (.cells #[.int .i64 s.cap, .int .i64 s.can, .int .i64 s.sl, .int .i64 s.sh, .slice A s.ns.length cp] 26)).alloc (.cells #[.int .i64 0, .slice none 0 0] 31)) = w1 at HB1 NBs1 NBr1 ⊢
  obtain ⟨Br, hBr⟩ : ∃ Br, w.heap.size + 1 = Br := ⟨_, rfl⟩
  obtain ⟨Bs, hBs⟩ : ∃ Bs, w.heap.size = Bs := ⟨_, rfl⟩
  have oBr : w.heap.size ≤ Br := by omega
  have oBsBr : Bs < Br := by omega
  have oBs : w.heap.size ≤ Bs := by omega
  rw [hBr] at NBr1 ⊢
  rw [hBs] at NBs1 ⊢
  clear hBs hBr
  obtain ⟨cBs0_1, cBs1_1, cBs2_1, cBs3_1, cBs4_1⟩ := cells5 NBs1.out
  obtain ⟨cBr0_1, cBr1_1⟩ := cells2 NBr1.out
  go_upto_region 1 with fail
  go_cut [5] from 7 to 12 (Pk1 s w1)
  case first =>
    have hS : ∀ X, Below w1.heap.size w1 X → X.cell? ⟨Bs, 2, none⟩ = some (.int .i64 s.sl) ∧ X.cell? ⟨Bs, 3, none⟩ = some (.int .i64 s.sh) := fun X hX => by
      obtain ⟨a0, a1, a2, a3, a4⟩ := cells5 ((hX.block Bs (Array.getElem?_eq_some_iff.1 NBs1.out).1).trans NBs1.out)
      exact ⟨a2, a3⟩
    have HS := Lib.hid hS
    clear hS
    obtain ⟨v0, hv0⟩ : ∃ v, w1.drew = v := ⟨_, rfl⟩
    have HX_v0 := Lib.hid (show Below w1.heap.size w1 v0 from hv0 ▸ (Below.refl _ w1).drew)
    refine wp_region_held_drew (S := fun X => X.cell? ⟨Bs, 2, none⟩ = some (.int .i64 s.sl) ∧ X.cell? ⟨Bs, 3, none⟩ = some (.int .i64 s.sh)) (by kernel_rfl) ((HS.out _ ((Below.refl _ w1).drew))) (fun hS0 => ?_)
    refine tkH 0 ⟨some 7, .fieldAddr 26 (.tmp 2) 2, 0, "outright.go:85", #[], none⟩ (v := ?_) hS0 ?_ ?_
    rotate_left
    · intro X ⟨x0, x1⟩; go_simp; try with_reducible rfl
    simp only [Act.put, List.setIfInBounds_toArray, List.set_cons_zero, List.set_cons_succ, Array.toArray_toList]
    refine tkH 1 ⟨some 8, .load 23 (.tmp 7), 23, "outright.go:85", #[⟨0, .data⟩], none⟩ (v := ?_) hS0 ?_ ?_
    rotate_left
    · intro X ⟨x0, x1⟩; go_simp; try with_reducible rfl
    simp only [Act.put, List.setIfInBounds_toArray, List.set_cons_zero, List.set_cons_succ, Array.toArray_toList]
    refine tkH 2 ⟨some 9, .move (.tmp 1), 72, "outright.go:85", #[], none⟩ (v := ?_) hS0 ?_ ?_
    rotate_left
    · intro X ⟨x0, x1⟩; go_simp; try with_reducible rfl
    simp only [Act.put, List.setIfInBounds_toArray, List.set_cons_zero, List.set_cons_succ, Array.toArray_toList]
    refine wpAnyH_ready (rs := [3, 6]) (by kernel_rfl) (by simp) (AllReadyH.cons (o := ⟨some 10, .call ⟨.value (.func 90), #[.tmp 9, .const (.int .i64 0)], #[72, 3]⟩, 3, "outright.go:85", #[⟨2, .data⟩], none⟩) rfl (fun K hK => ?_) (AllReadyH.cons (o := ⟨some 5, .alloc 31, 0, "outright.go:85", #[], none⟩) rfl (fun K hK => ?_) AllReadyH.nil))
    · skip
      go_simp
      refine (hword.out v0 (HB1.out.trans (HX_v0.out.mono HB1.out.size)) 0 (by omega)).mono ?_
      rintro e _ ⟨q, rfl, q0, q1, rfl⟩
      go_wp2_with fail
      refine hK.out _ _ ((HS.out _ HX_v0.out)) (fun hS1 => ?_)
      clear hS0 hK K
      refine wpAnyH_ready (rs := [4, 6]) (by kernel_rfl) (by simp) (AllReadyH.cons (o := ⟨some 11, .call ⟨.value (.func 89), #[.tmp 8, .tmp 10], #[23, 3]⟩, 3, "outright.go:85", #[⟨1, .data⟩, ⟨3, .data⟩, ⟨3, .chain⟩], none⟩) rfl (fun K hK => ?_) (AllReadyH.cons (o := ⟨some 5, .alloc 31, 0, "outright.go:85", #[], none⟩) rfl (fun K hK => ?_) AllReadyH.nil))
      · skip
        go_simp
        refine (picked_any s.sl s.sh q v0 hsl hsm (by omega) (And.intro q0 q1)).mono ?_
        rintro e v1 ⟨t, rfl, t0, t1, hb⟩
        have HX_v1 := Lib.hid (HX_v0.out.trans (hb.mono HX_v0.out.size))
        clear hb
        go_wp2_with fail
        refine hK.out _ _ ((HS.out _ HX_v1.out)) (fun hS2 => ?_)
        clear hS1 hK K
        refine tkH 5 ⟨some 12, .build 31 #[(0, .tmp 11)], 31, "outright.go:85", #[⟨4, .data⟩], none⟩ (v := ?_) hS2 ?_ ?_
        rotate_left
        · intro X ⟨x0, x1⟩; go_simp; try with_reducible rfl
        simp only [Act.put, List.setIfInBounds_toArray, List.set_cons_zero, List.set_cons_succ, Array.toArray_toList]
        refine wpAnyH_ready (rs := [6]) (by kernel_rfl) (by simp) (AllReadyH.cons (o := ⟨some 5, .alloc 31, 0, "outright.go:85", #[], none⟩) rfl (fun K hK => ?_) AllReadyH.nil)
        go_simp
        have hb : Below v1.heap.size v1 (v1.alloc (.cells #[.int .i64 0, .slice none 0 0] 31)) := (Below.refl _ _).alloc (Nat.le_refl _) _
        have hE := Go.heap_alloc_new v1 (.cells #[.int .i64 0, .slice none 0 0] 31)
        have bt : w1.heap.size ≤ v1.heap.size := HX_v1.out.size
        obtain ⟨Bt, hBt⟩ : ∃ B, v1.heap.size = B := ⟨_, rfl⟩
        rw [hBt] at hE bt
        rw [hBt]
        clear hBt
        generalize v1.alloc (.cells #[.int .i64 0, .slice none 0 0] 31) = v2 at hb hE ⊢
        have HX_v2 := Lib.hid (HX_v1.out.trans (hb.mono HX_v1.out.size))
        have ET_v2 := Lib.hid hE
        clear hE hb
        refine hK.out _ _ ((HS.out _ HX_v2.out)) (fun hS3 => ?_)
        clear hS2 hK K
        refine wpAnyH_ready (rs := [7]) (by kernel_rfl) (by simp) (AllReadyH.cons (o := ⟨none, .store 31 (.tmp 5) (.tmp 12), 0, "outright.go:85", #[⟨6, .data⟩, ⟨5, .data⟩, ⟨4, .chain⟩, ⟨0, .phase⟩, ⟨1, .phase⟩, ⟨2, .phase⟩, ⟨3, .phase⟩, ⟨4, .phase⟩, ⟨5, .phase⟩, ⟨6, .phase⟩], none⟩) rfl (fun K hK => ?_) AllReadyH.nil)
        have f0 : v2.frozen? ⟨Bt, 0, none⟩ = false := by simp [World.frozen?, ET_v2.out]
        have f1 : v2.frozen? ⟨Bt, 1, none⟩ = false := by simp [World.frozen?, ET_v2.out]
        have q2 : v2.cell? ⟨Bt, 0, none⟩ = some (.int .i64 0) := by simp [World.cell?, ET_v2.out]
        have q3 : v2.cell? ⟨Bt, 1, none⟩ = some (.slice none 0 0) := by simp [World.cell?, ET_v2.out]
        go_simp
        have hT := set_two ET_v2.out (.int .i64 t) (.slice none 0 0)
        have hb : Below w1.heap.size w1 ((v2.setCell ⟨Bt, 0, none⟩ (.int .i64 t)).setCell ⟨Bt, 1, none⟩ (.slice none 0 0)) := (HX_v2.out.setCell bt _).setCell bt _
        generalize ((v2.setCell ⟨Bt, 0, none⟩ (.int .i64 t)).setCell ⟨Bt, 1, none⟩ (.slice none 0 0)) = u1 at hT hb ⊢
        have HU := Lib.hid hb
        have HT := Lib.hid hT
        clear hb hT f0 f1 q2 q3
        refine hK.out _ _ ((HS.out _ HU.out)) (fun hS4 => ?_)
        clear hS3 hK K
        refine wpAnyH_done (by kernel_rfl) ?_ _
        clear hS4
        go_wp2_with fail
        go_meet
        case rel => exact ⟨Bt, t, rfl, HT.out, t0, t1, bt, HU.out⟩
      · skip
        go_simp
        have hb : Below v0.heap.size v0 (v0.alloc (.cells #[.int .i64 0, .slice none 0 0] 31)) := (Below.refl _ _).alloc (Nat.le_refl _) _
        have hE := Go.heap_alloc_new v0 (.cells #[.int .i64 0, .slice none 0 0] 31)
        have bt : w1.heap.size ≤ v0.heap.size := HX_v0.out.size
        obtain ⟨Bt, hBt⟩ : ∃ B, v0.heap.size = B := ⟨_, rfl⟩
        rw [hBt] at hE bt
        rw [hBt]
        clear hBt
        generalize v0.alloc (.cells #[.int .i64 0, .slice none 0 0] 31) = v3 at hb hE ⊢
        have HX_v3 := Lib.hid (HX_v0.out.trans (hb.mono HX_v0.out.size))
        have ET_v3 := Lib.hid hE
        clear hE hb
        refine hK.out _ _ ((HS.out _ HX_v3.out)) (fun hS2 => ?_)
        clear hS1 hK K
        refine wpAnyH_ready (rs := [4]) (by kernel_rfl) (by simp) (AllReadyH.cons (o := ⟨some 11, .call ⟨.value (.func 89), #[.tmp 8, .tmp 10], #[23, 3]⟩, 3, "outright.go:85", #[⟨1, .data⟩, ⟨3, .data⟩, ⟨3, .chain⟩], none⟩) rfl (fun K hK => ?_) AllReadyH.nil)
        go_simp
        refine (picked_any s.sl s.sh q v3 hsl hsm (by omega) (And.intro q0 q1)).mono ?_
        rintro e v4 ⟨t, rfl, t0, t1, hb⟩
        have HX_v4 := Lib.hid (HX_v3.out.trans (hb.mono HX_v3.out.size))
        have ET_v4 := Lib.hid ((hb.block Bt (Array.getElem?_eq_some_iff.1 ET_v3.out).1).trans ET_v3.out)
        clear hb
        go_wp2_with fail
        refine hK.out _ _ ((HS.out _ HX_v4.out)) (fun hS3 => ?_)
        clear hS2 hK K
        refine tkH 5 ⟨some 12, .build 31 #[(0, .tmp 11)], 31, "outright.go:85", #[⟨4, .data⟩], none⟩ (v := ?_) hS3 ?_ ?_
        rotate_left
        · intro X ⟨x0, x1⟩; go_simp; try with_reducible rfl
        simp only [Act.put, List.setIfInBounds_toArray, List.set_cons_zero, List.set_cons_succ, Array.toArray_toList]
        refine wpAnyH_ready (rs := [7]) (by kernel_rfl) (by simp) (AllReadyH.cons (o := ⟨none, .store 31 (.tmp 5) (.tmp 12), 0, "outright.go:85", #[⟨6, .data⟩, ⟨5, .data⟩, ⟨4, .chain⟩, ⟨0, .phase⟩, ⟨1, .phase⟩, ⟨2, .phase⟩, ⟨3, .phase⟩, ⟨4, .phase⟩, ⟨5, .phase⟩, ⟨6, .phase⟩], none⟩) rfl (fun K hK => ?_) AllReadyH.nil)
        have f0 : v4.frozen? ⟨Bt, 0, none⟩ = false := by simp [World.frozen?, ET_v4.out]
        have f1 : v4.frozen? ⟨Bt, 1, none⟩ = false := by simp [World.frozen?, ET_v4.out]
        have q2 : v4.cell? ⟨Bt, 0, none⟩ = some (.int .i64 0) := by simp [World.cell?, ET_v4.out]
        have q3 : v4.cell? ⟨Bt, 1, none⟩ = some (.slice none 0 0) := by simp [World.cell?, ET_v4.out]
        go_simp
        have hT := set_two ET_v4.out (.int .i64 t) (.slice none 0 0)
        have hb : Below w1.heap.size w1 ((v4.setCell ⟨Bt, 0, none⟩ (.int .i64 t)).setCell ⟨Bt, 1, none⟩ (.slice none 0 0)) := (HX_v4.out.setCell bt _).setCell bt _
        generalize ((v4.setCell ⟨Bt, 0, none⟩ (.int .i64 t)).setCell ⟨Bt, 1, none⟩ (.slice none 0 0)) = u1 at hT hb ⊢
        have HU := Lib.hid hb
        have HT := Lib.hid hT
        clear hb hT f0 f1 q2 q3
        refine hK.out _ _ ((HS.out _ HU.out)) (fun hS4 => ?_)
        clear hS3 hK K
        refine wpAnyH_done (by kernel_rfl) ?_ _
        clear hS4
        go_wp2_with fail
        go_meet
        case rel => exact ⟨Bt, t, rfl, HT.out, t0, t1, bt, HU.out⟩
    · skip
      go_simp
      have hb : Below v0.heap.size v0 (v0.alloc (.cells #[.int .i64 0, .slice none 0 0] 31)) := (Below.refl _ _).alloc (Nat.le_refl _) _
      have hE := Go.heap_alloc_new v0 (.cells #[.int .i64 0, .slice none 0 0] 31)
      have bt : w1.heap.size ≤ v0.heap.size := HX_v0.out.size
      obtain ⟨Bt, hBt⟩ : ∃ B, v0.heap.size = B := ⟨_, rfl⟩
      rw [hBt] at hE bt
      rw [hBt]
      clear hBt
      generalize v0.alloc (.cells #[.int .i64 0, .slice none 0 0] 31) = v5 at hb hE ⊢
      have HX_v5 := Lib.hid (HX_v0.out.trans (hb.mono HX_v0.out.size))
      have ET_v5 := Lib.hid hE
      clear hE hb
      refine hK.out _ _ ((HS.out _ HX_v5.out)) (fun hS1 => ?_)
      clear hS0 hK K
      refine wpAnyH_ready (rs := [3]) (by kernel_rfl) (by simp) (AllReadyH.cons (o := ⟨some 10, .call ⟨.value (.func 90), #[.tmp 9, .const (.int .i64 0)], #[72, 3]⟩, 3, "outright.go:85", #[⟨2, .data⟩], none⟩) rfl (fun K hK => ?_) AllReadyH.nil)
      go_simp
      refine (hword.out v5 (HB1.out.trans (HX_v5.out.mono HB1.out.size)) 0 (by omega)).mono ?_
      rintro e _ ⟨q, rfl, q0, q1, rfl⟩
      go_wp2_with fail
      refine hK.out _ _ ((HS.out _ HX_v5.out)) (fun hS2 => ?_)
      clear hS1 hK K
      refine wpAnyH_ready (rs := [4]) (by kernel_rfl) (by simp) (AllReadyH.cons (o := ⟨some 11, .call ⟨.value (.func 89), #[.tmp 8, .tmp 10], #[23, 3]⟩, 3, "outright.go:85", #[⟨1, .data⟩, ⟨3, .data⟩, ⟨3, .chain⟩], none⟩) rfl (fun K hK => ?_) AllReadyH.nil)
      go_simp
      refine (picked_any s.sl s.sh q v5 hsl hsm (by omega) (And.intro q0 q1)).mono ?_
      rintro e v6 ⟨t, rfl, t0, t1, hb⟩
      have HX_v6 := Lib.hid (HX_v5.out.trans (hb.mono HX_v5.out.size))
      have ET_v6 := Lib.hid ((hb.block Bt (Array.getElem?_eq_some_iff.1 ET_v5.out).1).trans ET_v5.out)
      clear hb
      go_wp2_with fail
      refine hK.out _ _ ((HS.out _ HX_v6.out)) (fun hS3 => ?_)
      clear hS2 hK K
      refine tkH 5 ⟨some 12, .build 31 #[(0, .tmp 11)], 31, "outright.go:85", #[⟨4, .data⟩], none⟩ (v := ?_) hS3 ?_ ?_
      rotate_left
      · intro X ⟨x0, x1⟩; go_simp; try with_reducible rfl
      simp only [Act.put, List.setIfInBounds_toArray, List.set_cons_zero, List.set_cons_succ, Array.toArray_toList]
      refine wpAnyH_ready (rs := [7]) (by kernel_rfl) (by simp) (AllReadyH.cons (o := ⟨none, .store 31 (.tmp 5) (.tmp 12), 0, "outright.go:85", #[⟨6, .data⟩, ⟨5, .data⟩, ⟨4, .chain⟩, ⟨0, .phase⟩, ⟨1, .phase⟩, ⟨2, .phase⟩, ⟨3, .phase⟩, ⟨4, .phase⟩, ⟨5, .phase⟩, ⟨6, .phase⟩], none⟩) rfl (fun K hK => ?_) AllReadyH.nil)
      have f0 : v6.frozen? ⟨Bt, 0, none⟩ = false := by simp [World.frozen?, ET_v6.out]
      have f1 : v6.frozen? ⟨Bt, 1, none⟩ = false := by simp [World.frozen?, ET_v6.out]
      have q2 : v6.cell? ⟨Bt, 0, none⟩ = some (.int .i64 0) := by simp [World.cell?, ET_v6.out]
      have q3 : v6.cell? ⟨Bt, 1, none⟩ = some (.slice none 0 0) := by simp [World.cell?, ET_v6.out]
      go_simp
      have hT := set_two ET_v6.out (.int .i64 t) (.slice none 0 0)
      have hb : Below w1.heap.size w1 ((v6.setCell ⟨Bt, 0, none⟩ (.int .i64 t)).setCell ⟨Bt, 1, none⟩ (.slice none 0 0)) := (HX_v6.out.setCell bt _).setCell bt _
      generalize ((v6.setCell ⟨Bt, 0, none⟩ (.int .i64 t)).setCell ⟨Bt, 1, none⟩ (.slice none 0 0)) = u1 at hT hb ⊢
      have HU := Lib.hid hb
      have HT := Lib.hid hT
      clear hb hT f0 f1 q2 q3
      refine hK.out _ _ ((HS.out _ HU.out)) (fun hS4 => ?_)
      clear hS3 hK K
      refine wpAnyH_done (by kernel_rfl) ?_ _
      clear hS4
      go_wp2_with fail
      go_meet
      case rel => exact ⟨Bt, t, rfl, HT.out, t0, t1, bt, HU.out⟩
  case rest =>
    generalize wc = w2 at hcut ⊢
    obtain ⟨Bt, t, rfl, hT, t0, t1, bt, hb⟩ := hcut
    have lB := (Array.getElem?_eq_some_iff.1 NBr1.out).1
    have oBt : w.heap.size ≤ Bt := by omega
    have oBrBt : Br < Bt := by omega
    have HT := Lib.hid hT
    clear hT
    have HB2 := Lib.hid ((HB1.out).trans (hb.mono (HB1.out).size))
    have NBs2 := Lib.hid ((hb.block Bs (Array.getElem?_eq_some_iff.1 NBs1.out).1).trans NBs1.out)
    have NBr2 := Lib.hid ((hb.block Br (Array.getElem?_eq_some_iff.1 NBr1.out).1).trans NBr1.out)
    clear HB1 NBs1 NBr1 cBs0_1 cBs1_1 cBs2_1 cBs3_1 cBs4_1 cBr0_1 cBr1_1  hb 
    obtain ⟨cBs0_2, cBs1_2, cBs2_2, cBs3_2, cBs4_2⟩ := cells5 NBs2.out
    obtain ⟨cBr0_2, cBr1_2⟩ := cells2 NBr2.out
    clear cBs0_2 cBs1_2 cBs2_2 cBs3_2 cBs4_2 cBr0_2 cBr1_2
    go_wp2_with fail
    go_loopw [6] (PkRel s w w1 Bs Br Bt (.cells #[.int .i64 s.cap, .int .i64 s.can, .int .i64 s.sl, .int .i64 s.sh, .slice A s.ns.length cp] 26 (0, 0)) (.cells #[.int .i64 0, .slice none 0 0] 31 (0, 0)) t) (fun i _ => s.ns.length - (intOf i).toNat)
    case atStart => exact ⟨0, [], .slice none 0 0, by omega, rfl, rfl, (fun i h => by simp at h), NBs2.out, NBr2.out, HT.out, World.ownsRow_nil _ _ _ _, HB2.out⟩
    case round =>
      clear HB2 NBs2 NBr2 HT
      obtain ⟨j, bs, va, hj, rfl, hbl, hpk, hs, hr, ht, hown, hbe⟩ := hrel
      have HN := Lib.hid hs
      have HR := Lib.hid hr
      have HT := Lib.hid ht
      have HPK := Lib.hid hpk
      have HOW := Lib.hid hown
      have HBE := Lib.hid hbe
      have HBL := Lib.hid hbl
      obtain ⟨_, _, _, _, x4⟩ := cells5 hs
      clear hs hr ht hpk hown hbe hbl
      by_cases hlt : j < s.ns.length
      · have hlt' : decide ((j : Int) < (s.ns.length : Int)) = true := by simpa using hlt
        obtain ⟨b, o, rfl, a0, a1, a2, a3, a4⟩ := (HA.out.keep HBE.out (Nat.le_refl _)).at hlt
        rw [← ntAt_at hlt] at a3 a4
        have hnt := HOK.out.nt j hlt
        have hbw : b < wr.heap.size := World.block_lt_of_cell? wr _ a3
        obtain ⟨lo, hlo⟩ : ∃ x, (ntAt s j).lo = x := ⟨_, rfl⟩
        obtain ⟨hi, hhi⟩ : ∃ x, (ntAt s j).hi = x := ⟨_, rfl⟩
        rw [hlo] at a3 hnt
        rw [hhi] at a4 hnt
        have n0 : 0 ≤ lo := by omega
        have n1 : lo ≤ hi := by omega
        have n2 : hi ≤ 1000 := by omega
        have HSN := Lib.hid (show ∀ x, lo ≤ x → x ≤ hi → PkOk s (bs ++ [x]) from fun x h1 h2 => HPK.out.snoc (by rw [HBL.out, hlo, hhi]; exact And.intro h1 h2))
        have HS := Lib.hid (show ∀ X, Below wr.heap.size wr X → X.cell? ⟨Bs, 4, none⟩ = some (.slice (some ⟨b, o, none⟩) s.ns.length cp) ∧ X.cell? ⟨b, o + j * 5 + 3, none⟩ = some (.int .i64 lo) ∧ X.cell? ⟨b, o + j * 5 + 4, none⟩ = some (.int .i64 hi) from fun X hX => by
          obtain ⟨_, _, _, _, y4⟩ := cells5 ((hX.block Bs (Array.getElem?_eq_some_iff.1 HN.out).1).trans HN.out)
          exact ⟨y4, (hX.cell hbw).trans a3, (hX.cell hbw).trans a4⟩)
        obtain ⟨i0, hi0', hz0', hz1', hz2'⟩ := info_parts Try.info3
        have hi0 := Lib.hid hi0'
        have hz0 := Lib.hid hz0'
        have hz1 := Lib.hid hz1'
        have hz2 := Lib.hid hz2'
        have i1 : (0 : Int) ≤ (j : Int) := by omega
        have i2 : (j : Int) < (s.ns.length : Int) := by omega
        have hws := HBE.out.size
        have lt' := (Array.getElem?_eq_some_iff.1 HT.out).1
        have hj1 : j + 1 ≤ 1000 := by omega
        have hbl6 : bs.length ≤ 6 := by have := HBL.out; omega
        have wj : IntKind.i64.wrap ((j : Int) + 1) = ((j + 1 : Nat) : Int) := by rw [IntWalk.i64_in _ (by omega)]; omega
        obtain ⟨Av, cv, rfl⟩ : ∃ Av cv, va = .slice Av bs.length cv := own_slice HOW.out
        have HLO := Lib.hid hlo
        have HHI := Lib.hid hhi
        clear a0 a1 a2 a3 a4 hnt hlo hhi x4
        obtain ⟨x4, a3, a4⟩ := HS.out _ (Below.refl _ _)
        go_upto_region 5 with fail
        obtain ⟨v0, hv0⟩ : ∃ v, wr.drew = v := ⟨_, rfl⟩
        have HX_v0 := Lib.hid (show Below wr.heap.size wr v0 from hv0 ▸ (Below.refl _ wr).drew)
        have T_v0 := Lib.hid (show v0.heap[Bt]? = some (.cells #[.int .i64 t, .slice Av bs.length cv] 31 (0, 0)) from hv0 ▸ HT.out)
        have O_v0 := Lib.hid (show v0.ownsRow (Bt + 1) 3 1 (.slice Av bs.length cv) bs.length (bs.map (Value.int .i64)) from (HOW.out.kept (Go_grown_of_below HX_v0.out) (own_none _)))
        refine wp_region_held_drew (S := fun X => X.cell? ⟨Bs, 4, none⟩ = some (.slice (some ⟨b, o, none⟩) s.ns.length cp) ∧ X.cell? ⟨b, o + j * 5 + 3, none⟩ = some (.int .i64 lo) ∧ X.cell? ⟨b, o + j * 5 + 4, none⟩ = some (.int .i64 hi)) (by kernel_rfl) ((HS.out _ ((Below.refl _ wr).drew))) (fun hS0 => ?_)
        refine tkH 0 ⟨some 20, .fieldAddr 31 (.tmp 5) 1, 0, "outright.go:87", #[], none⟩ (v := ?_) hS0 ?_ ?_
        rotate_left
        · intro X ⟨x0, x1, x2⟩; go_simp; try with_reducible rfl
        simp only [Act.put, List.setIfInBounds_toArray, List.set_cons_zero, List.set_cons_succ, Array.toArray_toList]
        refine tkH 2 ⟨some 22, .fieldAddr 26 (.tmp 2) 3, 0, "outright.go:87", #[], none⟩ (v := ?_) hS0 ?_ ?_
        rotate_left
        · intro X ⟨x0, x1, x2⟩; go_simp; try with_reducible rfl
        simp only [Act.put, List.setIfInBounds_toArray, List.set_cons_zero, List.set_cons_succ, Array.toArray_toList]
        refine tkH 3 ⟨some 23, .load 24 (.tmp 22), 24, "outright.go:87", #[⟨2, .data⟩], none⟩ (v := ?_) hS0 ?_ ?_
        rotate_left
        · intro X ⟨x0, x1, x2⟩; go_simp; try with_reducible rfl
        simp only [Act.put, List.setIfInBounds_toArray, List.set_cons_zero, List.set_cons_succ, Array.toArray_toList]
        refine tkH 4 ⟨some 24, .move (.tmp 6), 3, "outright.go:87", #[], none⟩ (v := ?_) hS0 ?_ ?_
        rotate_left
        · intro X ⟨x0, x1, x2⟩; go_simp; try with_reducible rfl
        simp only [Act.put, List.setIfInBounds_toArray, List.set_cons_zero, List.set_cons_succ, Array.toArray_toList]
        refine tkH 5 ⟨some 25, .indexAddr 24 (.tmp 23) (.tmp 24), 0, "outright.go:87", #[⟨3, .data⟩, ⟨4, .data⟩], none⟩ (v := ?_) hS0 ?_ ?_
        rotate_left
        · intro X ⟨x0, x1, x2⟩; go_simp; try with_reducible rfl
        simp only [Act.put, List.setIfInBounds_toArray, List.set_cons_zero, List.set_cons_succ, Array.toArray_toList]
        refine tkH 6 ⟨some 26, .fieldAddr 80 (.tmp 25) 3, 0, "outright.go:87", #[⟨5, .data⟩], none⟩ (v := ?_) hS0 ?_ ?_
        rotate_left
        · intro X ⟨x0, x1, x2⟩; go_simp; try with_reducible rfl
        simp only [Act.put, List.setIfInBounds_toArray, List.set_cons_zero, List.set_cons_succ, Array.toArray_toList]
        refine tkH 7 ⟨some 27, .load 23 (.tmp 26), 23, "outright.go:87", #[⟨6, .data⟩], none⟩ (v := ?_) hS0 ?_ ?_
        rotate_left
        · intro X ⟨x0, x1, x2⟩; go_simp; try with_reducible rfl
        simp only [Act.put, List.setIfInBounds_toArray, List.set_cons_zero, List.set_cons_succ, Array.toArray_toList]
        refine tkH 8 ⟨some 28, .move (.tmp 1), 72, "outright.go:87", #[], none⟩ (v := ?_) hS0 ?_ ?_
        rotate_left
        · intro X ⟨x0, x1, x2⟩; go_simp; try with_reducible rfl
        simp only [Act.put, List.setIfInBounds_toArray, List.set_cons_zero, List.set_cons_succ, Array.toArray_toList]
        refine tkH 9 ⟨some 29, .move (.tmp 6), 3, "outright.go:87", #[], none⟩ (v := ?_) hS0 ?_ ?_
        rotate_left
        · intro X ⟨x0, x1, x2⟩; go_simp; try with_reducible rfl
        simp only [Act.put, List.setIfInBounds_toArray, List.set_cons_zero, List.set_cons_succ, Array.toArray_toList]
        refine tkH 10 ⟨some 30, .binOp .add 3 (.tmp 29) (.const (.int .i64 1)) 3, 3, "outright.go:87", #[⟨9, .data⟩], none⟩ (v := ?_) hS0 ?_ ?_
        rotate_left
        · intro X ⟨x0, x1, x2⟩; go_simp; try with_reducible rfl
        simp only [Act.put, List.setIfInBounds_toArray, List.set_cons_zero, List.set_cons_succ, Array.toArray_toList]
        refine wpAnyH_ready (rs := [1, 11]) (by kernel_rfl) (by simp) (AllReadyH.cons (o := ⟨some 21, .load 27 (.tmp 20), 27, "outright.go:87", #[⟨0, .data⟩], none⟩) rfl (fun K hK => ?_) (AllReadyH.cons (o := ⟨some 31, .call ⟨.value (.func 90), #[.tmp 28, .tmp 30], #[72, 3]⟩, 3, "outright.go:87", #[⟨8, .data⟩, ⟨10, .data⟩], none⟩) rfl (fun K hK => ?_) AllReadyH.nil))
        · skip
          have p1 : v0.cell? ⟨Bt, 1, none⟩ = some (.slice Av bs.length cv) := by simp [World.cell?, T_v0.out]
          go_simp
          refine hK.out _ _ ((HS.out _ HX_v0.out)) (fun hS1 => ?_)
          clear hS0 hK K
          refine wpAnyH_ready (rs := [11]) (by kernel_rfl) (by simp) (AllReadyH.cons (o := ⟨some 31, .call ⟨.value (.func 90), #[.tmp 28, .tmp 30], #[72, 3]⟩, 3, "outright.go:87", #[⟨8, .data⟩, ⟨10, .data⟩], none⟩) rfl (fun K hK => ?_) AllReadyH.nil)
          go_simp
          refine (hword.out v0 (HBE.out.trans (HX_v0.out.mono HBE.out.size)) (j + 1) hj1).mono ?_
          rintro e _ ⟨q, rfl, q0, q1, rfl⟩
          go_wp2_with fail
          refine hK.out _ _ ((HS.out _ HX_v0.out)) (fun hS2 => ?_)
          clear hS1 hK K
          refine wpAnyH_ready (rs := [12]) (by kernel_rfl) (by simp) (AllReadyH.cons (o := ⟨some 32, .call ⟨.value (.func 89), #[.tmp 27, .tmp 31], #[23, 3]⟩, 3, "outright.go:87", #[⟨7, .data⟩, ⟨11, .data⟩, ⟨11, .chain⟩], none⟩) rfl (fun K hK => ?_) AllReadyH.nil)
          go_simp
          refine (picked_any lo hi q v0 n0 n1 n2 (And.intro q0 q1)).mono ?_
          rintro e v1 ⟨x, rfl, x0, x1, hb⟩
          have T_v1 := Lib.hid ((hb.block Bt (Array.getElem?_eq_some_iff.1 T_v0.out).1).trans T_v0.out)
          have O_v1 := Lib.hid (O_v0.out.kept (Go_grown_of_below hb) (own_none _))
          have HX_v1 := Lib.hid (HX_v0.out.trans (hb.mono HX_v0.out.size))
          clear hb
          go_wp2_with fail
          refine hK.out _ _ ((HS.out _ HX_v1.out)) (fun hS3 => ?_)
          clear hS2 hK K
          refine wpAnyH_ready (rs := [13]) (by kernel_rfl) (by simp) (AllReadyH.cons (o := ⟨some 33, .buildSlice 27 1 #[(0, .tmp 32)], 27, "outright.go:87", #[⟨12, .data⟩], none⟩) rfl (fun K hK => ?_) AllReadyH.nil)
          go_simp
          have hb : Below v1.heap.size v1 (v1.alloc (.cells #[.int .i64 x] 3)) := (Below.refl _ _).alloc (Nat.le_refl _) _
          have hE := Go.heap_alloc_new v1 (.cells #[.int .i64 x] 3)
          obtain ⟨Bq, hBq⟩ : ∃ B, v1.heap.size = B := ⟨_, rfl⟩
          have lq := HX_v1.out.size
          have lq2 : v1.heap.size < (v1.alloc (.cells #[.int .i64 x] 3)).heap.size := by simp
          rw [hBq] at hE lq lq2
          rw [hBq]
          clear hBq
          generalize v1.alloc (.cells #[.int .i64 x] 3) = v2 at hb hE lq2 ⊢
          have T_v2 := Lib.hid ((hb.block Bt (Array.getElem?_eq_some_iff.1 T_v1.out).1).trans T_v1.out)
          have O_v2 := Lib.hid (O_v1.out.kept (Go_grown_of_below hb) (own_none _))
          have HX_v2 := Lib.hid (HX_v1.out.trans (hb.mono HX_v1.out.size))
          have EQ_v2 := Lib.hid hE
          clear hE hb
          refine hK.out _ _ ((HS.out _ HX_v2.out)) (fun hS4 => ?_)
          clear hS3 hK K
          refine wpAnyH_ready (rs := [14]) (by kernel_rfl) (by simp) (AllReadyH.cons (o := ⟨some 34, .call ⟨.builtin .append, #[.tmp 21, .tmp 33], #[27, 27]⟩, 27, "outright.go:87", #[⟨1, .data⟩, ⟨13, .data⟩, ⟨12, .chain⟩], none⟩) rfl (fun K hK => ?_) AllReadyH.nil)
          refine step_append_lies _ (by rfl) _ _ _ (by rfl) (Bt + 1) 3 i0 _ 1 8 Try.underlying27 hi0.out hz0.out hz1.out hz2.out rfl (by omega) _ bs.length _ (by rfl) O_v2.out ⟨Bq, 0, none⟩ 1 1 [.int .i64 x] (by rfl) (by rfl) (World.news_of_block (cs := #[.int .i64 x]) (t := 3) (fr := (0, 0)) EQ_v2.out) (by simp [Value.oneCell']) (by omega) (by unfold maxLen; omega) (by omega) (by omega) v2.heap.size rfl ?_
          intro gg cap' w7 hown7 hgrow hat hlt7
          have hnb : ∀ k, (Value.slice Av bs.length cv).ownBlock = some k → Bt < k := fun k hk => by have := (HOW.out.lt k hk).1; omega
          have hbb : ∀ k, (Value.slice Av bs.length cv).ownBlock = some k → k < wr.heap.size := fun k hk => (HOW.out.lt k hk).2
          have hT7 := (hgrow.block Bt (by have := HX_v2.out.size; omega) (fun e => by have := hnb Bt e.symm; omega)).trans T_v2.out
          have hs7 := (hgrow.block Bs (by have := HX_v2.out.size; omega) (fun e => by have := hnb Bs e.symm; omega)).trans ((HX_v2.out.block Bs (by omega)).trans HN.out)
          have hr7 := (hgrow.block Br (by have := HX_v2.out.size; omega) (fun e => by have := hnb Br e.symm; omega)).trans ((HX_v2.out.block Br (by omega)).trans HR.out)
          have HB7 := Lib.hid (show Below w.heap.size w w7 from (HBE.out.trans (HX_v2.out.mono HBE.out.size)).trans (below_of_grown hgrow O_v2.out (by omega) (by have := HX_v2.out.size; omega)))
          have hown8 : w7.ownsRow (Bt + 1) 3 1 (.slice (some ⟨gg, 0, none⟩) (bs.length + 1) cap') (bs ++ [x]).length ((bs ++ [x]).map (Value.int .i64)) := by rw [List.map_append, List.length_append]; exact hown7
          have hgb : gg ≠ Bt := by have := (hown8.lt gg rfl).1; omega
          have hcell : w7.cell? ⟨Bs, 4, none⟩ = some (.slice (some ⟨b, o, none⟩) s.ns.length cp) ∧ w7.cell? ⟨b, o + j * 5 + 3, none⟩ = some (.int .i64 lo) ∧ w7.cell? ⟨b, o + j * 5 + 4, none⟩ = some (.int .i64 hi) := by
            obtain ⟨_, _, _, _, y4⟩ := cells5 hs7
            obtain ⟨bb, oo, he, _, _, _, e3, e4⟩ := (HA.out.keep HB7.out (Nat.le_refl _)).at hlt
            cases he
            rw [← ntAt_at hlt] at e3 e4
            exact ⟨y4, by rw [e3, HLO.out], by rw [e4, HHI.out]⟩
          have HT7 := Lib.hid hT7
          have HS7 := Lib.hid hs7
          have HR7 := Lib.hid hr7
          have HO7 := Lib.hid hown8
          clear hown7 hgrow hat hlt7 hT7 hs7 hr7 hown8 hnb hbb
          refine hK.out _ _ (hcell) (fun hS5 => ?_)
          clear hS4 hK K
          simp only [Act.put, List.setIfInBounds_toArray, List.set_cons_zero, List.set_cons_succ, Array.toArray_toList]
          refine tkH 15 ⟨some 35, .fieldAddr 31 (.tmp 5) 1, 0, "outright.go:87", #[⟨0, .phase⟩, ⟨1, .phase⟩, ⟨2, .phase⟩, ⟨3, .phase⟩, ⟨4, .phase⟩, ⟨5, .phase⟩, ⟨6, .phase⟩, ⟨7, .phase⟩, ⟨8, .phase⟩, ⟨9, .phase⟩, ⟨10, .phase⟩, ⟨11, .phase⟩, ⟨12, .phase⟩, ⟨13, .phase⟩, ⟨14, .phase⟩], none⟩ (v := ?_) hS5 ?_ ?_
          rotate_left
          · intro X ⟨x0, x1, x2⟩; go_simp; try with_reducible rfl
          simp only [Act.put, List.setIfInBounds_toArray, List.set_cons_zero, List.set_cons_succ, Array.toArray_toList]
          refine wpAnyH_ready (rs := [16]) (by kernel_rfl) (by simp) (AllReadyH.cons (o := ⟨none, .store 27 (.tmp 35) (.tmp 34), 0, "outright.go:87", #[⟨15, .data⟩, ⟨14, .data⟩, ⟨14, .chain⟩, ⟨0, .phase⟩, ⟨1, .phase⟩, ⟨2, .phase⟩, ⟨3, .phase⟩, ⟨4, .phase⟩, ⟨5, .phase⟩, ⟨6, .phase⟩, ⟨7, .phase⟩, ⟨8, .phase⟩, ⟨9, .phase⟩, ⟨10, .phase⟩, ⟨11, .phase⟩, ⟨12, .phase⟩, ⟨13, .phase⟩, ⟨14, .phase⟩], none⟩) rfl (fun K hK => ?_) AllReadyH.nil)
          have f1 : w7.frozen? ⟨Bt, 1, none⟩ = false := by simp [World.frozen?, HT7.out]
          have q2 : w7.cell? ⟨Bt, 1, none⟩ = some (.slice Av bs.length cv) := by simp [World.cell?, HT7.out]
          go_simp
          have hT8 := set_snd HT7.out (.slice (some ⟨gg, 0, none⟩) (bs.length + 1) cap')
          have hs8 := (Below.heap_setCell w7 ⟨Bt, 1, none⟩ (.slice (some ⟨gg, 0, none⟩) (bs.length + 1) cap') Bs (by show Bs ≠ Bt; omega)).trans HS7.out
          have hr8 := (Below.heap_setCell w7 ⟨Bt, 1, none⟩ (.slice (some ⟨gg, 0, none⟩) (bs.length + 1) cap') Br (by show Br ≠ Bt; omega)).trans HR7.out
          have hO8 := own_of_blocks (w' := w7.setCell ⟨Bt, 1, none⟩ (.slice (some ⟨gg, 0, none⟩) (bs.length + 1) cap')) HO7.out (fun g' hg' => Below.heap_setCell _ _ _ _ (by have e : g' = gg := (by simpa [Value.ownBlock] using hg'.symm); show g' ≠ Bt; omega))
          have hb8 : Below w.heap.size w (w7.setCell ⟨Bt, 1, none⟩ (.slice (some ⟨gg, 0, none⟩) (bs.length + 1) cap')) := HB7.out.setCell (by show w.heap.size ≤ Bt; omega) _
          have hc8 : (w7.setCell ⟨Bt, 1, none⟩ (.slice (some ⟨gg, 0, none⟩) (bs.length + 1) cap')).cell? ⟨Bs, 4, none⟩ = some (.slice (some ⟨b, o, none⟩) s.ns.length cp) ∧ (w7.setCell ⟨Bt, 1, none⟩ (.slice (some ⟨gg, 0, none⟩) (bs.length + 1) cap')).cell? ⟨b, o + j * 5 + 3, none⟩ = some (.int .i64 lo) ∧ (w7.setCell ⟨Bt, 1, none⟩ (.slice (some ⟨gg, 0, none⟩) (bs.length + 1) cap')).cell? ⟨b, o + j * 5 + 4, none⟩ = some (.int .i64 hi) := by
            obtain ⟨_, _, _, _, y4⟩ := cells5 hs8
            obtain ⟨bb, oo, he, _, _, _, e3, e4⟩ := (HA.out.keep hb8 (Nat.le_refl _)).at hlt
            cases he
            rw [← ntAt_at hlt] at e3 e4
            exact ⟨y4, by rw [e3, HLO.out], by rw [e4, HHI.out]⟩
          generalize w7.setCell ⟨Bt, 1, none⟩ (.slice (some ⟨gg, 0, none⟩) (bs.length + 1) cap') = w8 at hT8 hs8 hr8 hO8 hb8 hc8 ⊢
          have HF := Lib.hid (And.intro hT8 (And.intro hs8 (And.intro hr8 (And.intro hO8 hb8))))
          clear hT8 hs8 hr8 hO8 hb8 f1 q2
          refine hK.out _ _ (hc8) (fun hS6 => ?_)
          clear hS5 hK K
          refine wpAnyH_done (by kernel_rfl) ?_ _
          clear hS6
          go_wp2_with fail
          go_roundw
          case rel => exact ⟨j + 1, bs ++ [x], _, by omega, by go_num, by rw [List.length_append, HBL.out]; rfl, HSN.out x x0 x1, HF.out.2.1, HF.out.2.2.1, HF.out.1, HF.out.2.2.2.1, HF.out.2.2.2.2⟩
          case measure => simp [intOf]; omega
        · skip
          go_simp
          refine (hword.out v0 (HBE.out.trans (HX_v0.out.mono HBE.out.size)) (j + 1) hj1).mono ?_
          rintro e _ ⟨q, rfl, q0, q1, rfl⟩
          go_wp2_with fail
          refine hK.out _ _ ((HS.out _ HX_v0.out)) (fun hS1 => ?_)
          clear hS0 hK K
          refine wpAnyH_ready (rs := [1, 12]) (by kernel_rfl) (by simp) (AllReadyH.cons (o := ⟨some 21, .load 27 (.tmp 20), 27, "outright.go:87", #[⟨0, .data⟩], none⟩) rfl (fun K hK => ?_) (AllReadyH.cons (o := ⟨some 32, .call ⟨.value (.func 89), #[.tmp 27, .tmp 31], #[23, 3]⟩, 3, "outright.go:87", #[⟨7, .data⟩, ⟨11, .data⟩, ⟨11, .chain⟩], none⟩) rfl (fun K hK => ?_) AllReadyH.nil))
          · skip
            have p1 : v0.cell? ⟨Bt, 1, none⟩ = some (.slice Av bs.length cv) := by simp [World.cell?, T_v0.out]
            go_simp
            refine hK.out _ _ ((HS.out _ HX_v0.out)) (fun hS2 => ?_)
            clear hS1 hK K
            refine wpAnyH_ready (rs := [12]) (by kernel_rfl) (by simp) (AllReadyH.cons (o := ⟨some 32, .call ⟨.value (.func 89), #[.tmp 27, .tmp 31], #[23, 3]⟩, 3, "outright.go:87", #[⟨7, .data⟩, ⟨11, .data⟩, ⟨11, .chain⟩], none⟩) rfl (fun K hK => ?_) AllReadyH.nil)
            go_simp
            refine (picked_any lo hi q v0 n0 n1 n2 (And.intro q0 q1)).mono ?_
            rintro e v3 ⟨x, rfl, x0, x1, hb⟩
            have T_v3 := Lib.hid ((hb.block Bt (Array.getElem?_eq_some_iff.1 T_v0.out).1).trans T_v0.out)
            have O_v3 := Lib.hid (O_v0.out.kept (Go_grown_of_below hb) (own_none _))
            have HX_v3 := Lib.hid (HX_v0.out.trans (hb.mono HX_v0.out.size))
            clear hb
            go_wp2_with fail
            refine hK.out _ _ ((HS.out _ HX_v3.out)) (fun hS3 => ?_)
            clear hS2 hK K
            refine wpAnyH_ready (rs := [13]) (by kernel_rfl) (by simp) (AllReadyH.cons (o := ⟨some 33, .buildSlice 27 1 #[(0, .tmp 32)], 27, "outright.go:87", #[⟨12, .data⟩], none⟩) rfl (fun K hK => ?_) AllReadyH.nil)
            go_simp
            have hb : Below v3.heap.size v3 (v3.alloc (.cells #[.int .i64 x] 3)) := (Below.refl _ _).alloc (Nat.le_refl _) _
            have hE := Go.heap_alloc_new v3 (.cells #[.int .i64 x] 3)
            obtain ⟨Bq, hBq⟩ : ∃ B, v3.heap.size = B := ⟨_, rfl⟩
            have lq := HX_v3.out.size
            have lq2 : v3.heap.size < (v3.alloc (.cells #[.int .i64 x] 3)).heap.size := by simp
            rw [hBq] at hE lq lq2
            rw [hBq]
            clear hBq
            generalize v3.alloc (.cells #[.int .i64 x] 3) = v4 at hb hE lq2 ⊢
            have T_v4 := Lib.hid ((hb.block Bt (Array.getElem?_eq_some_iff.1 T_v3.out).1).trans T_v3.out)
            have O_v4 := Lib.hid (O_v3.out.kept (Go_grown_of_below hb) (own_none _))
            have HX_v4 := Lib.hid (HX_v3.out.trans (hb.mono HX_v3.out.size))
            have EQ_v4 := Lib.hid hE
            clear hE hb
            refine hK.out _ _ ((HS.out _ HX_v4.out)) (fun hS4 => ?_)
            clear hS3 hK K
            refine wpAnyH_ready (rs := [14]) (by kernel_rfl) (by simp) (AllReadyH.cons (o := ⟨some 34, .call ⟨.builtin .append, #[.tmp 21, .tmp 33], #[27, 27]⟩, 27, "outright.go:87", #[⟨1, .data⟩, ⟨13, .data⟩, ⟨12, .chain⟩], none⟩) rfl (fun K hK => ?_) AllReadyH.nil)
            refine step_append_lies _ (by rfl) _ _ _ (by rfl) (Bt + 1) 3 i0 _ 1 8 Try.underlying27 hi0.out hz0.out hz1.out hz2.out rfl (by omega) _ bs.length _ (by rfl) O_v4.out ⟨Bq, 0, none⟩ 1 1 [.int .i64 x] (by rfl) (by rfl) (World.news_of_block (cs := #[.int .i64 x]) (t := 3) (fr := (0, 0)) EQ_v4.out) (by simp [Value.oneCell']) (by omega) (by unfold maxLen; omega) (by omega) (by omega) v4.heap.size rfl ?_
            intro gg cap' w7 hown7 hgrow hat hlt7
            have hnb : ∀ k, (Value.slice Av bs.length cv).ownBlock = some k → Bt < k := fun k hk => by have := (HOW.out.lt k hk).1; omega
            have hbb : ∀ k, (Value.slice Av bs.length cv).ownBlock = some k → k < wr.heap.size := fun k hk => (HOW.out.lt k hk).2
            have hT7 := (hgrow.block Bt (by have := HX_v4.out.size; omega) (fun e => by have := hnb Bt e.symm; omega)).trans T_v4.out
            have hs7 := (hgrow.block Bs (by have := HX_v4.out.size; omega) (fun e => by have := hnb Bs e.symm; omega)).trans ((HX_v4.out.block Bs (by omega)).trans HN.out)
            have hr7 := (hgrow.block Br (by have := HX_v4.out.size; omega) (fun e => by have := hnb Br e.symm; omega)).trans ((HX_v4.out.block Br (by omega)).trans HR.out)
            have HB7 := Lib.hid (show Below w.heap.size w w7 from (HBE.out.trans (HX_v4.out.mono HBE.out.size)).trans (below_of_grown hgrow O_v4.out (by omega) (by have := HX_v4.out.size; omega)))
            have hown8 : w7.ownsRow (Bt + 1) 3 1 (.slice (some ⟨gg, 0, none⟩) (bs.length + 1) cap') (bs ++ [x]).length ((bs ++ [x]).map (Value.int .i64)) := by rw [List.map_append, List.length_append]; exact hown7
            have hgb : gg ≠ Bt := by have := (hown8.lt gg rfl).1; omega
            have hcell : w7.cell? ⟨Bs, 4, none⟩ = some (.slice (some ⟨b, o, none⟩) s.ns.length cp) ∧ w7.cell? ⟨b, o + j * 5 + 3, none⟩ = some (.int .i64 lo) ∧ w7.cell? ⟨b, o + j * 5 + 4, none⟩ = some (.int .i64 hi) := by
              obtain ⟨_, _, _, _, y4⟩ := cells5 hs7
              obtain ⟨bb, oo, he, _, _, _, e3, e4⟩ := (HA.out.keep HB7.out (Nat.le_refl _)).at hlt
              cases he
              rw [← ntAt_at hlt] at e3 e4
              exact ⟨y4, by rw [e3, HLO.out], by rw [e4, HHI.out]⟩
            have HT7 := Lib.hid hT7
            have HS7 := Lib.hid hs7
            have HR7 := Lib.hid hr7
            have HO7 := Lib.hid hown8
            clear hown7 hgrow hat hlt7 hT7 hs7 hr7 hown8 hnb hbb
            refine hK.out _ _ (hcell) (fun hS5 => ?_)
            clear hS4 hK K
            simp only [Act.put, List.setIfInBounds_toArray, List.set_cons_zero, List.set_cons_succ, Array.toArray_toList]
            refine tkH 15 ⟨some 35, .fieldAddr 31 (.tmp 5) 1, 0, "outright.go:87", #[⟨0, .phase⟩, ⟨1, .phase⟩, ⟨2, .phase⟩, ⟨3, .phase⟩, ⟨4, .phase⟩, ⟨5, .phase⟩, ⟨6, .phase⟩, ⟨7, .phase⟩, ⟨8, .phase⟩, ⟨9, .phase⟩, ⟨10, .phase⟩, ⟨11, .phase⟩, ⟨12, .phase⟩, ⟨13, .phase⟩, ⟨14, .phase⟩], none⟩ (v := ?_) hS5 ?_ ?_
            rotate_left
            · intro X ⟨x0, x1, x2⟩; go_simp; try with_reducible rfl
            simp only [Act.put, List.setIfInBounds_toArray, List.set_cons_zero, List.set_cons_succ, Array.toArray_toList]
            refine wpAnyH_ready (rs := [16]) (by kernel_rfl) (by simp) (AllReadyH.cons (o := ⟨none, .store 27 (.tmp 35) (.tmp 34), 0, "outright.go:87", #[⟨15, .data⟩, ⟨14, .data⟩, ⟨14, .chain⟩, ⟨0, .phase⟩, ⟨1, .phase⟩, ⟨2, .phase⟩, ⟨3, .phase⟩, ⟨4, .phase⟩, ⟨5, .phase⟩, ⟨6, .phase⟩, ⟨7, .phase⟩, ⟨8, .phase⟩, ⟨9, .phase⟩, ⟨10, .phase⟩, ⟨11, .phase⟩, ⟨12, .phase⟩, ⟨13, .phase⟩, ⟨14, .phase⟩], none⟩) rfl (fun K hK => ?_) AllReadyH.nil)
            have f1 : w7.frozen? ⟨Bt, 1, none⟩ = false := by simp [World.frozen?, HT7.out]
            have q2 : w7.cell? ⟨Bt, 1, none⟩ = some (.slice Av bs.length cv) := by simp [World.cell?, HT7.out]
            go_simp
            have hT8 := set_snd HT7.out (.slice (some ⟨gg, 0, none⟩) (bs.length + 1) cap')
            have hs8 := (Below.heap_setCell w7 ⟨Bt, 1, none⟩ (.slice (some ⟨gg, 0, none⟩) (bs.length + 1) cap') Bs (by show Bs ≠ Bt; omega)).trans HS7.out
            have hr8 := (Below.heap_setCell w7 ⟨Bt, 1, none⟩ (.slice (some ⟨gg, 0, none⟩) (bs.length + 1) cap') Br (by show Br ≠ Bt; omega)).trans HR7.out
            have hO8 := own_of_blocks (w' := w7.setCell ⟨Bt, 1, none⟩ (.slice (some ⟨gg, 0, none⟩) (bs.length + 1) cap')) HO7.out (fun g' hg' => Below.heap_setCell _ _ _ _ (by have e : g' = gg := (by simpa [Value.ownBlock] using hg'.symm); show g' ≠ Bt; omega))
            have hb8 : Below w.heap.size w (w7.setCell ⟨Bt, 1, none⟩ (.slice (some ⟨gg, 0, none⟩) (bs.length + 1) cap')) := HB7.out.setCell (by show w.heap.size ≤ Bt; omega) _
            have hc8 : (w7.setCell ⟨Bt, 1, none⟩ (.slice (some ⟨gg, 0, none⟩) (bs.length + 1) cap')).cell? ⟨Bs, 4, none⟩ = some (.slice (some ⟨b, o, none⟩) s.ns.length cp) ∧ (w7.setCell ⟨Bt, 1, none⟩ (.slice (some ⟨gg, 0, none⟩) (bs.length + 1) cap')).cell? ⟨b, o + j * 5 + 3, none⟩ = some (.int .i64 lo) ∧ (w7.setCell ⟨Bt, 1, none⟩ (.slice (some ⟨gg, 0, none⟩) (bs.length + 1) cap')).cell? ⟨b, o + j * 5 + 4, none⟩ = some (.int .i64 hi) := by
              obtain ⟨_, _, _, _, y4⟩ := cells5 hs8
              obtain ⟨bb, oo, he, _, _, _, e3, e4⟩ := (HA.out.keep hb8 (Nat.le_refl _)).at hlt
              cases he
              rw [← ntAt_at hlt] at e3 e4
              exact ⟨y4, by rw [e3, HLO.out], by rw [e4, HHI.out]⟩
            generalize w7.setCell ⟨Bt, 1, none⟩ (.slice (some ⟨gg, 0, none⟩) (bs.length + 1) cap') = w8 at hT8 hs8 hr8 hO8 hb8 hc8 ⊢
            have HF := Lib.hid (And.intro hT8 (And.intro hs8 (And.intro hr8 (And.intro hO8 hb8))))
            clear hT8 hs8 hr8 hO8 hb8 f1 q2
            refine hK.out _ _ (hc8) (fun hS6 => ?_)
            clear hS5 hK K
            refine wpAnyH_done (by kernel_rfl) ?_ _
            clear hS6
            go_wp2_with fail
            go_roundw
            case rel => exact ⟨j + 1, bs ++ [x], _, by omega, by go_num, by rw [List.length_append, HBL.out]; rfl, HSN.out x x0 x1, HF.out.2.1, HF.out.2.2.1, HF.out.1, HF.out.2.2.2.1, HF.out.2.2.2.2⟩
            case measure => simp [intOf]; omega
          · skip
            go_simp
            refine (picked_any lo hi q v0 n0 n1 n2 (And.intro q0 q1)).mono ?_
            rintro e v5 ⟨x, rfl, x0, x1, hb⟩
            have T_v5 := Lib.hid ((hb.block Bt (Array.getElem?_eq_some_iff.1 T_v0.out).1).trans T_v0.out)
            have O_v5 := Lib.hid (O_v0.out.kept (Go_grown_of_below hb) (own_none _))
            have HX_v5 := Lib.hid (HX_v0.out.trans (hb.mono HX_v0.out.size))
            clear hb
            go_wp2_with fail
            refine hK.out _ _ ((HS.out _ HX_v5.out)) (fun hS2 => ?_)
            clear hS1 hK K
            refine wpAnyH_ready (rs := [1, 13]) (by kernel_rfl) (by simp) (AllReadyH.cons (o := ⟨some 21, .load 27 (.tmp 20), 27, "outright.go:87", #[⟨0, .data⟩], none⟩) rfl (fun K hK => ?_) (AllReadyH.cons (o := ⟨some 33, .buildSlice 27 1 #[(0, .tmp 32)], 27, "outright.go:87", #[⟨12, .data⟩], none⟩) rfl (fun K hK => ?_) AllReadyH.nil))
            · skip
              have p1 : v5.cell? ⟨Bt, 1, none⟩ = some (.slice Av bs.length cv) := by simp [World.cell?, T_v5.out]
              go_simp
              refine hK.out _ _ ((HS.out _ HX_v5.out)) (fun hS3 => ?_)
              clear hS2 hK K
              refine wpAnyH_ready (rs := [13]) (by kernel_rfl) (by simp) (AllReadyH.cons (o := ⟨some 33, .buildSlice 27 1 #[(0, .tmp 32)], 27, "outright.go:87", #[⟨12, .data⟩], none⟩) rfl (fun K hK => ?_) AllReadyH.nil)
              go_simp
              have hb : Below v5.heap.size v5 (v5.alloc (.cells #[.int .i64 x] 3)) := (Below.refl _ _).alloc (Nat.le_refl _) _
              have hE := Go.heap_alloc_new v5 (.cells #[.int .i64 x] 3)
              obtain ⟨Bq, hBq⟩ : ∃ B, v5.heap.size = B := ⟨_, rfl⟩
              have lq := HX_v5.out.size
              have lq2 : v5.heap.size < (v5.alloc (.cells #[.int .i64 x] 3)).heap.size := by simp
              rw [hBq] at hE lq lq2
              rw [hBq]
              clear hBq
              generalize v5.alloc (.cells #[.int .i64 x] 3) = v6 at hb hE lq2 ⊢
              have T_v6 := Lib.hid ((hb.block Bt (Array.getElem?_eq_some_iff.1 T_v5.out).1).trans T_v5.out)
              have O_v6 := Lib.hid (O_v5.out.kept (Go_grown_of_below hb) (own_none _))
              have HX_v6 := Lib.hid (HX_v5.out.trans (hb.mono HX_v5.out.size))
              have EQ_v6 := Lib.hid hE
              clear hE hb
              refine hK.out _ _ ((HS.out _ HX_v6.out)) (fun hS4 => ?_)
              clear hS3 hK K
              refine wpAnyH_ready (rs := [14]) (by kernel_rfl) (by simp) (AllReadyH.cons (o := ⟨some 34, .call ⟨.builtin .append, #[.tmp 21, .tmp 33], #[27, 27]⟩, 27, "outright.go:87", #[⟨1, .data⟩, ⟨13, .data⟩, ⟨12, .chain⟩], none⟩) rfl (fun K hK => ?_) AllReadyH.nil)
              refine step_append_lies _ (by rfl) _ _ _ (by rfl) (Bt + 1) 3 i0 _ 1 8 Try.underlying27 hi0.out hz0.out hz1.out hz2.out rfl (by omega) _ bs.length _ (by rfl) O_v6.out ⟨Bq, 0, none⟩ 1 1 [.int .i64 x] (by rfl) (by rfl) (World.news_of_block (cs := #[.int .i64 x]) (t := 3) (fr := (0, 0)) EQ_v6.out) (by simp [Value.oneCell']) (by omega) (by unfold maxLen; omega) (by omega) (by omega) v6.heap.size rfl ?_
              intro gg cap' w7 hown7 hgrow hat hlt7
              have hnb : ∀ k, (Value.slice Av bs.length cv).ownBlock = some k → Bt < k := fun k hk => by have := (HOW.out.lt k hk).1; omega
              have hbb : ∀ k, (Value.slice Av bs.length cv).ownBlock = some k → k < wr.heap.size := fun k hk => (HOW.out.lt k hk).2
              have hT7 := (hgrow.block Bt (by have := HX_v6.out.size; omega) (fun e => by have := hnb Bt e.symm; omega)).trans T_v6.out
              have hs7 := (hgrow.block Bs (by have := HX_v6.out.size; omega) (fun e => by have := hnb Bs e.symm; omega)).trans ((HX_v6.out.block Bs (by omega)).trans HN.out)
              have hr7 := (hgrow.block Br (by have := HX_v6.out.size; omega) (fun e => by have := hnb Br e.symm; omega)).trans ((HX_v6.out.block Br (by omega)).trans HR.out)
              have HB7 := Lib.hid (show Below w.heap.size w w7 from (HBE.out.trans (HX_v6.out.mono HBE.out.size)).trans (below_of_grown hgrow O_v6.out (by omega) (by have := HX_v6.out.size; omega)))
              have hown8 : w7.ownsRow (Bt + 1) 3 1 (.slice (some ⟨gg, 0, none⟩) (bs.length + 1) cap') (bs ++ [x]).length ((bs ++ [x]).map (Value.int .i64)) := by rw [List.map_append, List.length_append]; exact hown7
              have hgb : gg ≠ Bt := by have := (hown8.lt gg rfl).1; omega
              have hcell : w7.cell? ⟨Bs, 4, none⟩ = some (.slice (some ⟨b, o, none⟩) s.ns.length cp) ∧ w7.cell? ⟨b, o + j * 5 + 3, none⟩ = some (.int .i64 lo) ∧ w7.cell? ⟨b, o + j * 5 + 4, none⟩ = some (.int .i64 hi) := by
                obtain ⟨_, _, _, _, y4⟩ := cells5 hs7
                obtain ⟨bb, oo, he, _, _, _, e3, e4⟩ := (HA.out.keep HB7.out (Nat.le_refl _)).at hlt
                cases he
                rw [← ntAt_at hlt] at e3 e4
                exact ⟨y4, by rw [e3, HLO.out], by rw [e4, HHI.out]⟩
              have HT7 := Lib.hid hT7
              have HS7 := Lib.hid hs7
              have HR7 := Lib.hid hr7
              have HO7 := Lib.hid hown8
              clear hown7 hgrow hat hlt7 hT7 hs7 hr7 hown8 hnb hbb
              refine hK.out _ _ (hcell) (fun hS5 => ?_)
              clear hS4 hK K
              simp only [Act.put, List.setIfInBounds_toArray, List.set_cons_zero, List.set_cons_succ, Array.toArray_toList]
              refine tkH 15 ⟨some 35, .fieldAddr 31 (.tmp 5) 1, 0, "outright.go:87", #[⟨0, .phase⟩, ⟨1, .phase⟩, ⟨2, .phase⟩, ⟨3, .phase⟩, ⟨4, .phase⟩, ⟨5, .phase⟩, ⟨6, .phase⟩, ⟨7, .phase⟩, ⟨8, .phase⟩, ⟨9, .phase⟩, ⟨10, .phase⟩, ⟨11, .phase⟩, ⟨12, .phase⟩, ⟨13, .phase⟩, ⟨14, .phase⟩], none⟩ (v := ?_) hS5 ?_ ?_
              rotate_left
              · intro X ⟨x0, x1, x2⟩; go_simp; try with_reducible rfl
              simp only [Act.put, List.setIfInBounds_toArray, List.set_cons_zero, List.set_cons_succ, Array.toArray_toList]
              refine wpAnyH_ready (rs := [16]) (by kernel_rfl) (by simp) (AllReadyH.cons (o := ⟨none, .store 27 (.tmp 35) (.tmp 34), 0, "outright.go:87", #[⟨15, .data⟩, ⟨14, .data⟩, ⟨14, .chain⟩, ⟨0, .phase⟩, ⟨1, .phase⟩, ⟨2, .phase⟩, ⟨3, .phase⟩, ⟨4, .phase⟩, ⟨5, .phase⟩, ⟨6, .phase⟩, ⟨7, .phase⟩, ⟨8, .phase⟩, ⟨9, .phase⟩, ⟨10, .phase⟩, ⟨11, .phase⟩, ⟨12, .phase⟩, ⟨13, .phase⟩, ⟨14, .phase⟩], none⟩) rfl (fun K hK => ?_) AllReadyH.nil)
              have f1 : w7.frozen? ⟨Bt, 1, none⟩ = false := by simp [World.frozen?, HT7.out]
              have q2 : w7.cell? ⟨Bt, 1, none⟩ = some (.slice Av bs.length cv) := by simp [World.cell?, HT7.out]
              go_simp
              have hT8 := set_snd HT7.out (.slice (some ⟨gg, 0, none⟩) (bs.length + 1) cap')
              have hs8 := (Below.heap_setCell w7 ⟨Bt, 1, none⟩ (.slice (some ⟨gg, 0, none⟩) (bs.length + 1) cap') Bs (by show Bs ≠ Bt; omega)).trans HS7.out
              have hr8 := (Below.heap_setCell w7 ⟨Bt, 1, none⟩ (.slice (some ⟨gg, 0, none⟩) (bs.length + 1) cap') Br (by show Br ≠ Bt; omega)).trans HR7.out
              have hO8 := own_of_blocks (w' := w7.setCell ⟨Bt, 1, none⟩ (.slice (some ⟨gg, 0, none⟩) (bs.length + 1) cap')) HO7.out (fun g' hg' => Below.heap_setCell _ _ _ _ (by have e : g' = gg := (by simpa [Value.ownBlock] using hg'.symm); show g' ≠ Bt; omega))
              have hb8 : Below w.heap.size w (w7.setCell ⟨Bt, 1, none⟩ (.slice (some ⟨gg, 0, none⟩) (bs.length + 1) cap')) := HB7.out.setCell (by show w.heap.size ≤ Bt; omega) _
              have hc8 : (w7.setCell ⟨Bt, 1, none⟩ (.slice (some ⟨gg, 0, none⟩) (bs.length + 1) cap')).cell? ⟨Bs, 4, none⟩ = some (.slice (some ⟨b, o, none⟩) s.ns.length cp) ∧ (w7.setCell ⟨Bt, 1, none⟩ (.slice (some ⟨gg, 0, none⟩) (bs.length + 1) cap')).cell? ⟨b, o + j * 5 + 3, none⟩ = some (.int .i64 lo) ∧ (w7.setCell ⟨Bt, 1, none⟩ (.slice (some ⟨gg, 0, none⟩) (bs.length + 1) cap')).cell? ⟨b, o + j * 5 + 4, none⟩ = some (.int .i64 hi) := by
                obtain ⟨_, _, _, _, y4⟩ := cells5 hs8
                obtain ⟨bb, oo, he, _, _, _, e3, e4⟩ := (HA.out.keep hb8 (Nat.le_refl _)).at hlt
                cases he
                rw [← ntAt_at hlt] at e3 e4
                exact ⟨y4, by rw [e3, HLO.out], by rw [e4, HHI.out]⟩
              generalize w7.setCell ⟨Bt, 1, none⟩ (.slice (some ⟨gg, 0, none⟩) (bs.length + 1) cap') = w8 at hT8 hs8 hr8 hO8 hb8 hc8 ⊢
              have HF := Lib.hid (And.intro hT8 (And.intro hs8 (And.intro hr8 (And.intro hO8 hb8))))
              clear hT8 hs8 hr8 hO8 hb8 f1 q2
              refine hK.out _ _ (hc8) (fun hS6 => ?_)
              clear hS5 hK K
              refine wpAnyH_done (by kernel_rfl) ?_ _
              clear hS6
              go_wp2_with fail
              go_roundw
              case rel => exact ⟨j + 1, bs ++ [x], _, by omega, by go_num, by rw [List.length_append, HBL.out]; rfl, HSN.out x x0 x1, HF.out.2.1, HF.out.2.2.1, HF.out.1, HF.out.2.2.2.1, HF.out.2.2.2.2⟩
              case measure => simp [intOf]; omega
            · skip
              go_simp
              have hb : Below v5.heap.size v5 (v5.alloc (.cells #[.int .i64 x] 3)) := (Below.refl _ _).alloc (Nat.le_refl _) _
              have hE := Go.heap_alloc_new v5 (.cells #[.int .i64 x] 3)
              obtain ⟨Bq, hBq⟩ : ∃ B, v5.heap.size = B := ⟨_, rfl⟩
              have lq := HX_v5.out.size
              have lq2 : v5.heap.size < (v5.alloc (.cells #[.int .i64 x] 3)).heap.size := by simp
              rw [hBq] at hE lq lq2
              rw [hBq]
              clear hBq
              generalize v5.alloc (.cells #[.int .i64 x] 3) = v7 at hb hE lq2 ⊢
              have T_v7 := Lib.hid ((hb.block Bt (Array.getElem?_eq_some_iff.1 T_v5.out).1).trans T_v5.out)
              have O_v7 := Lib.hid (O_v5.out.kept (Go_grown_of_below hb) (own_none _))
              have HX_v7 := Lib.hid (HX_v5.out.trans (hb.mono HX_v5.out.size))
              have EQ_v7 := Lib.hid hE
              clear hE hb
              refine hK.out _ _ ((HS.out _ HX_v7.out)) (fun hS3 => ?_)
              clear hS2 hK K
              refine wpAnyH_ready (rs := [1]) (by kernel_rfl) (by simp) (AllReadyH.cons (o := ⟨some 21, .load 27 (.tmp 20), 27, "outright.go:87", #[⟨0, .data⟩], none⟩) rfl (fun K hK => ?_) AllReadyH.nil)
              go_simp
              have p1 : v7.cell? ⟨Bt, 1, none⟩ = some (.slice Av bs.length cv) := by simp [World.cell?, T_v7.out]
              go_simp
              refine hK.out _ _ ((HS.out _ HX_v7.out)) (fun hS4 => ?_)
              clear hS3 hK K
              refine wpAnyH_ready (rs := [14]) (by kernel_rfl) (by simp) (AllReadyH.cons (o := ⟨some 34, .call ⟨.builtin .append, #[.tmp 21, .tmp 33], #[27, 27]⟩, 27, "outright.go:87", #[⟨1, .data⟩, ⟨13, .data⟩, ⟨12, .chain⟩], none⟩) rfl (fun K hK => ?_) AllReadyH.nil)
              refine step_append_lies _ (by rfl) _ _ _ (by rfl) (Bt + 1) 3 i0 _ 1 8 Try.underlying27 hi0.out hz0.out hz1.out hz2.out rfl (by omega) _ bs.length _ (by rfl) O_v7.out ⟨Bq, 0, none⟩ 1 1 [.int .i64 x] (by rfl) (by rfl) (World.news_of_block (cs := #[.int .i64 x]) (t := 3) (fr := (0, 0)) EQ_v7.out) (by simp [Value.oneCell']) (by omega) (by unfold maxLen; omega) (by omega) (by omega) v7.heap.size rfl ?_
              intro gg cap' w7 hown7 hgrow hat hlt7
              have hnb : ∀ k, (Value.slice Av bs.length cv).ownBlock = some k → Bt < k := fun k hk => by have := (HOW.out.lt k hk).1; omega
              have hbb : ∀ k, (Value.slice Av bs.length cv).ownBlock = some k → k < wr.heap.size := fun k hk => (HOW.out.lt k hk).2
              have hT7 := (hgrow.block Bt (by have := HX_v7.out.size; omega) (fun e => by have := hnb Bt e.symm; omega)).trans T_v7.out
              have hs7 := (hgrow.block Bs (by have := HX_v7.out.size; omega) (fun e => by have := hnb Bs e.symm; omega)).trans ((HX_v7.out.block Bs (by omega)).trans HN.out)
              have hr7 := (hgrow.block Br (by have := HX_v7.out.size; omega) (fun e => by have := hnb Br e.symm; omega)).trans ((HX_v7.out.block Br (by omega)).trans HR.out)
              have HB7 := Lib.hid (show Below w.heap.size w w7 from (HBE.out.trans (HX_v7.out.mono HBE.out.size)).trans (below_of_grown hgrow O_v7.out (by omega) (by have := HX_v7.out.size; omega)))
              have hown8 : w7.ownsRow (Bt + 1) 3 1 (.slice (some ⟨gg, 0, none⟩) (bs.length + 1) cap') (bs ++ [x]).length ((bs ++ [x]).map (Value.int .i64)) := by rw [List.map_append, List.length_append]; exact hown7
              have hgb : gg ≠ Bt := by have := (hown8.lt gg rfl).1; omega
              have hcell : w7.cell? ⟨Bs, 4, none⟩ = some (.slice (some ⟨b, o, none⟩) s.ns.length cp) ∧ w7.cell? ⟨b, o + j * 5 + 3, none⟩ = some (.int .i64 lo) ∧ w7.cell? ⟨b, o + j * 5 + 4, none⟩ = some (.int .i64 hi) := by
                obtain ⟨_, _, _, _, y4⟩ := cells5 hs7
                obtain ⟨bb, oo, he, _, _, _, e3, e4⟩ := (HA.out.keep HB7.out (Nat.le_refl _)).at hlt
                cases he
                rw [← ntAt_at hlt] at e3 e4
                exact ⟨y4, by rw [e3, HLO.out], by rw [e4, HHI.out]⟩
              have HT7 := Lib.hid hT7
              have HS7 := Lib.hid hs7
              have HR7 := Lib.hid hr7
              have HO7 := Lib.hid hown8
              clear hown7 hgrow hat hlt7 hT7 hs7 hr7 hown8 hnb hbb
              refine hK.out _ _ (hcell) (fun hS5 => ?_)
              clear hS4 hK K
              simp only [Act.put, List.setIfInBounds_toArray, List.set_cons_zero, List.set_cons_succ, Array.toArray_toList]
              refine tkH 15 ⟨some 35, .fieldAddr 31 (.tmp 5) 1, 0, "outright.go:87", #[⟨0, .phase⟩, ⟨1, .phase⟩, ⟨2, .phase⟩, ⟨3, .phase⟩, ⟨4, .phase⟩, ⟨5, .phase⟩, ⟨6, .phase⟩, ⟨7, .phase⟩, ⟨8, .phase⟩, ⟨9, .phase⟩, ⟨10, .phase⟩, ⟨11, .phase⟩, ⟨12, .phase⟩, ⟨13, .phase⟩, ⟨14, .phase⟩], none⟩ (v := ?_) hS5 ?_ ?_
              rotate_left
              · intro X ⟨x0, x1, x2⟩; go_simp; try with_reducible rfl
              simp only [Act.put, List.setIfInBounds_toArray, List.set_cons_zero, List.set_cons_succ, Array.toArray_toList]
              refine wpAnyH_ready (rs := [16]) (by kernel_rfl) (by simp) (AllReadyH.cons (o := ⟨none, .store 27 (.tmp 35) (.tmp 34), 0, "outright.go:87", #[⟨15, .data⟩, ⟨14, .data⟩, ⟨14, .chain⟩, ⟨0, .phase⟩, ⟨1, .phase⟩, ⟨2, .phase⟩, ⟨3, .phase⟩, ⟨4, .phase⟩, ⟨5, .phase⟩, ⟨6, .phase⟩, ⟨7, .phase⟩, ⟨8, .phase⟩, ⟨9, .phase⟩, ⟨10, .phase⟩, ⟨11, .phase⟩, ⟨12, .phase⟩, ⟨13, .phase⟩, ⟨14, .phase⟩], none⟩) rfl (fun K hK => ?_) AllReadyH.nil)
              have f1 : w7.frozen? ⟨Bt, 1, none⟩ = false := by simp [World.frozen?, HT7.out]
              have q2 : w7.cell? ⟨Bt, 1, none⟩ = some (.slice Av bs.length cv) := by simp [World.cell?, HT7.out]
              go_simp
              have hT8 := set_snd HT7.out (.slice (some ⟨gg, 0, none⟩) (bs.length + 1) cap')
              have hs8 := (Below.heap_setCell w7 ⟨Bt, 1, none⟩ (.slice (some ⟨gg, 0, none⟩) (bs.length + 1) cap') Bs (by show Bs ≠ Bt; omega)).trans HS7.out
              have hr8 := (Below.heap_setCell w7 ⟨Bt, 1, none⟩ (.slice (some ⟨gg, 0, none⟩) (bs.length + 1) cap') Br (by show Br ≠ Bt; omega)).trans HR7.out
              have hO8 := own_of_blocks (w' := w7.setCell ⟨Bt, 1, none⟩ (.slice (some ⟨gg, 0, none⟩) (bs.length + 1) cap')) HO7.out (fun g' hg' => Below.heap_setCell _ _ _ _ (by have e : g' = gg := (by simpa [Value.ownBlock] using hg'.symm); show g' ≠ Bt; omega))
              have hb8 : Below w.heap.size w (w7.setCell ⟨Bt, 1, none⟩ (.slice (some ⟨gg, 0, none⟩) (bs.length + 1) cap')) := HB7.out.setCell (by show w.heap.size ≤ Bt; omega) _
              have hc8 : (w7.setCell ⟨Bt, 1, none⟩ (.slice (some ⟨gg, 0, none⟩) (bs.length + 1) cap')).cell? ⟨Bs, 4, none⟩ = some (.slice (some ⟨b, o, none⟩) s.ns.length cp) ∧ (w7.setCell ⟨Bt, 1, none⟩ (.slice (some ⟨gg, 0, none⟩) (bs.length + 1) cap')).cell? ⟨b, o + j * 5 + 3, none⟩ = some (.int .i64 lo) ∧ (w7.setCell ⟨Bt, 1, none⟩ (.slice (some ⟨gg, 0, none⟩) (bs.length + 1) cap')).cell? ⟨b, o + j * 5 + 4, none⟩ = some (.int .i64 hi) := by
                obtain ⟨_, _, _, _, y4⟩ := cells5 hs8
                obtain ⟨bb, oo, he, _, _, _, e3, e4⟩ := (HA.out.keep hb8 (Nat.le_refl _)).at hlt
                cases he
                rw [← ntAt_at hlt] at e3 e4
                exact ⟨y4, by rw [e3, HLO.out], by rw [e4, HHI.out]⟩
              generalize w7.setCell ⟨Bt, 1, none⟩ (.slice (some ⟨gg, 0, none⟩) (bs.length + 1) cap') = w8 at hT8 hs8 hr8 hO8 hb8 hc8 ⊢
              have HF := Lib.hid (And.intro hT8 (And.intro hs8 (And.intro hr8 (And.intro hO8 hb8))))
              clear hT8 hs8 hr8 hO8 hb8 f1 q2
              refine hK.out _ _ (hc8) (fun hS6 => ?_)
              clear hS5 hK K
              refine wpAnyH_done (by kernel_rfl) ?_ _
              clear hS6
              go_wp2_with fail
              go_roundw
              case rel => exact ⟨j + 1, bs ++ [x], _, by omega, by go_num, by rw [List.length_append, HBL.out]; rfl, HSN.out x x0 x1, HF.out.2.1, HF.out.2.2.1, HF.out.1, HF.out.2.2.2.1, HF.out.2.2.2.2⟩
              case measure => simp [intOf]; omega
      · have hlt' : decide ((j : Int) < (s.ns.length : Int)) = false := by simpa using hlt
        obtain rfl : j = s.ns.length := by omega
        obtain ⟨Av, cv, rfl⟩ : ∃ Av cv, va = .slice Av bs.length cv := own_slice HOW.out
        obtain ⟨p0, p1⟩ := cells2 HT.out
        obtain ⟨r0, r1⟩ := cells2 HR.out
        have z0 : wr.frozen? ⟨Br, 0, none⟩ = false := by simp [World.frozen?, HR.out]
        have z1 : wr.frozen? ⟨Br, 1, none⟩ = false := by simp [World.frozen?, HR.out]
        go_wp2_with fail
        have hq := set_two HR.out (.int .i64 t) (.slice Av bs.length cv)
        have hO8 := own_of_blocks (w' := (wr.setCell ⟨Br, 0, none⟩ (.int .i64 t)).setCell ⟨Br, 1, none⟩ (.slice Av bs.length cv)) HOW.out (fun g' hg' => (Below.heap_setCell _ _ _ _ (by have := (HOW.out.lt g' hg').1; show g' ≠ Br; omega)).trans (Below.heap_setCell _ _ _ _ (by have := (HOW.out.lt g' hg').1; show g' ≠ Br; omega)))
        have hb8 : Below w.heap.size w ((wr.setCell ⟨Br, 0, none⟩ (.int .i64 t)).setCell ⟨Br, 1, none⟩ (.slice Av bs.length cv)) := (HBE.out.setCell (by show w.heap.size ≤ Br; omega) _).setCell (by show w.heap.size ≤ Br; omega) _
        generalize (wr.setCell ⟨Br, 0, none⟩ (.int .i64 t)).setCell ⟨Br, 1, none⟩ (.slice Av bs.length cv) = V at hq hO8 hb8 ⊢
        have s0 : V.cell? ⟨Br, 0, none⟩ = some (.int .i64 t) := by simp [World.cell?, hq]
        have s1 : V.cell? ⟨Br, 1, none⟩ = some (.slice Av bs.length cv) := by simp [World.cell?, hq]
        have hnil : NilOk Av cv := by
          rcases hO8.2 with ⟨h, _⟩ | ⟨g', cp', cur, h, _⟩
          · simp only [Value.slice.injEq] at h; exact fun _ => h.2.2
          · simp only [Value.slice.injEq] at h; exact fun h2 => by rw [h2] at h; cases h.1
        exact bodyPost_ret (v := .agg #[.int .i64 t, .slice Av bs.length cv]) (by simp [results, Try.results43, go_sem, s0, s1]) rfl ⟨t, Av, cv, bs, rfl, picked_truth t0 t1 HBL.out HPK.out, IntsAt.of_own hO8, hnil, hb8⟩
theorem DpsAt.of_own85 {W : World} {base : Nat} {v : Value} {n : Nat} {l : List Dp} (h : W.ownsRow base 85 3 v n (flatD l)) : ∃ A cap, v = .slice A l.length cap ∧ DpsAt W A l ∧ NilOk A cap := by
  have hl : l.length = n := by have := h.1; rw [flatD_len] at this; omega
  subst hl
  rcases h.2 with ⟨rfl, h0⟩ | ⟨g, cap, cur, rfl, h1, h2, h3, h4, h5, h6⟩
  · have : l = [] := List.length_eq_zero_iff.1 h0
    subst this
    exact ⟨none, 0, rfl, .inl rfl, fun _ => rfl⟩
  · refine ⟨_, cap, rfl, .inr ⟨g, 0, rfl, fun i hi => ?_⟩, fun h => by cases h⟩
    have hc : ∀ k v, (flatD l)[k]? = some v → W.cell? ⟨g, k, none⟩ = some v := fun k v hk => by
      rw [← h6] at hk
      have hlt : k < l.length * 3 := by
        have := (List.getElem?_eq_some_iff.1 hk).1
        rw [List.length_take] at this
        omega
      rw [List.getElem?_take_of_lt hlt] at hk
      have : cur[k]? = some v := by simpa using hk
      simp [World.cell?, h2, this]
    obtain ⟨f0, f1, f2⟩ := flatD_at hi
    rw [Nat.zero_add]
    exact ⟨hc _ _ f0, hc _ _ f1, hc _ _ f2⟩
theorem Try.info85 : (Try.prog.info? 85).map (fun i => (i.zero, i.size, i.bytes)) = some (some (.agg #[.int .i64 0, .int .i64 0, .int .i64 0]), 3, 24) := by kernel_rfl

/-- Dips that are valid; those of what is there. -/
def DipOk (s : St) (left : List Int) (bits : Int) (dips : List Dp) : Prop :=
  ∀ d ∈ dips, dipB s d = true ∧ (bits = 0 → ∃ k : Nat, d.n = k ∧ k < left.length ∧ d.lo ≤ atL left k ∧ atL left k ≤ d.hi)
theorem DipOk.snoc {s : St} {left : List Int} {bits : Int} {dips : List Dp} {k : Nat} {N m lo hi : Int} (h : DipOk s left bits dips) (hl : left.length = s.ns.length) (hk : k < left.length) (hm : 0 ≤ m ∧ m ≤ 400) (hlo : 0 ≤ lo ∧ lo ≤ m) (hhi : m ≤ hi ∧ hi ≤ 400) (hN : atL left k = N) (hb : bits = 0 → m = N) : DipOk s left bits (dips ++ [⟨k, lo, hi⟩]) := by
  intro d hd
  rcases List.mem_append.1 hd with hd | hd
  · exact h d hd
  · rw [List.mem_singleton.1 hd]
    refine ⟨?_, fun h0 => ⟨k, rfl, hk, by have := hb h0; show lo ≤ _; omega, by have := hb h0; show _ ≤ hi; omega⟩⟩
    unfold dipB
    simp only [Bool.and_eq_true, inB_true, decide_eq_true_eq]
    omega
theorem DipOk.ag {s : St} {c k b : Nat → Int} {t : Int} {dips : List Dp} (h : DipOk s (leftsL s c k b t s.ns.length) 0 dips) : Ag s c k dips t b := by
  intro i hi
  unfold agN
  rw [List.all_eq_true]
  intro d hd
  obtain ⟨_, h2⟩ := h d hd
  obtain ⟨q, e, hq, h3, h4⟩ := h2 rfl
  rw [leftsL_len] at hq
  rw [leftsL_at _ _ _ _ _ hq] at h3 h4
  by_cases e2 : q = i
  · subst e2; simp [e, inB_true.2 ⟨h3, h4⟩]
  · have : ¬ d.n = (i : Int) := by omega
    simp [this]
def DPRel (s : St) (left : List Int) (bits : Int) (w1 : World) (out i : Value) (wr : World) : Prop :=
  ∃ (j : Nat) (dips : List Dp), j ≤ 4 ∧ i = .int .i64 j ∧ dips.length = j ∧ DipOk s left bits dips ∧ wr.ownsRow w1.heap.size 85 3 out dips.length (flatD dips) ∧ (dips = [] → out = .slice none 0 0) ∧ Below w1.heap.size w1 wr
def DNew (N bits : Int) (wr : World) (n : Value) (W : World) : Prop := ∃ m : Int, n = .int .i64 m ∧ 0 ≤ m ∧ m ≤ 400 ∧ (bits = 0 → m = N) ∧ W = wr
def DippedPost (s : St) (left : List Int) (bits : Int) (w : World) (e : Ending) (w' : World) : Prop :=
  ∃ Ad cd dips, e = .returned (.slice Ad (List.length dips) cd) ∧ DpsAt w' Ad dips ∧ (dips = [] → Ad = none ∧ cd = 0) ∧ dips.length ≤ 4 ∧ DipOk s left bits dips ∧ Below w.heap.size w w'
theorem rplay_l (s : St) (A : Option Addr) (cp : Nat) (Ac Ak : Option Addr) (cc ck : Nat) (c k : List Int) (t : Int) (Ab : Option Addr) (cb : Nat) (bs : List Int) (w : World) (hok : planL s c k = 0) (htb : truthB s t bs = true) (hA : NtsAt w A s.ns) (hc : IntsAt w (.slice Ac c.length cc) c) (hk : IntsAt w (.slice Ak k.length ck) k) (hv : IntsAt w (.slice Ab bs.length cb) bs) :
    Calls Try.prog 26 #[.agg #[.int .i64 s.cap, .int .i64 s.can, .int .i64 s.sl, .int .i64 s.sh, .slice A s.ns.length cp], .agg #[.slice Ac c.length cc, .slice Ak k.length ck], .agg #[.int .i64 t, .slice Ab bs.length cb]] w fun e w' => ∃ A1 c1 v2 v3, e = .returned (.tuple #[.slice A1 (leftsL s (atL c) (atL k) (atL bs) t s.ns.length).length c1, v2, v3]) ∧ IntsAt w' (.slice A1 (leftsL s (atL c) (atL k) (atL bs) t s.ns.length).length c1) (leftsL s (atL c) (atL k) (atL bs) t s.ns.length) ∧ Below w.heap.size w w' :=
  (rplay_any s A cp Ac Ak cc ck c k t Ab cb bs w hok htb hA hc hk hv).mono fun e w' ⟨h1, v1, v2, v3, he, h4, h5, h6⟩ => by
    subst he
    have i1 := IntsAt.of_own h4
    obtain ⟨A1, c1, rfl, j1⟩ := id i1
    exact ⟨A1, c1, v2, v3, rfl, i1, h1⟩

set_option maxRecDepth 100000 in
set_option maxHeartbeats 8000000 in
theorem dipped_by (s : St) (A : Option Addr) (cp : Nat) (Ac Ak : Option Addr) (cc ck : Nat) (c k : List Int) (t : Int) (Ab : Option Addr) (cb : Nat) (bs : List Int) (v : Value) (ws : List Int) (many bits : Int) (w : World) (hok : planL s c k = 0) (htb : truthB s t bs = true) (hA : NtsAt w A s.ns) (hc : IntsAt w (.slice Ac c.length cc) c) (hk : IntsAt w (.slice Ak k.length ck) k) (hv : IntsAt w (.slice Ab bs.length cb) bs) (hw : WordsAt w v ws) (hn : ws.length ≤ 9223372036854775807) (hm : 0 ≤ many ∧ many ≤ 255) (hb : 0 ≤ bits ∧ bits ≤ 255) :
    Calls Try.prog 44 #[.agg #[.int .i64 s.cap, .int .i64 s.can, .int .i64 s.sl, .int .i64 s.sh, .slice A s.ns.length cp], .agg #[.slice Ac c.length cc, .slice Ak k.length ck], .agg #[.int .i64 t, .slice Ab bs.length cb], v, .int .u8 many, .int .u8 bits] w (DippedPost s (leftsL s (atL c) (atL k) (atL bs) t s.ns.length) bits w) := by
  have HA := Lib.hid hA
  have HC := Lib.hid hc
  have HK := Lib.hid hk
  have HV := Lib.hid hv
  have HP := Lib.hid hok
  have HT := Lib.hid htb
  have hword := Lib.hid (fun (W : World) (hb : Below w.heap.size w W) (k : Nat) (hk : k ≤ 1000) => word_any v ws k W (hw.keep hb (Nat.le_refl _)) hn hk)
  obtain ⟨hO, -, -, hPL⟩ := planL_zero.1 hok
  have hTR := (truthB_true.1 htb).2
  have h6 := hO.len
  have hpos := hO.pos
  have hrng : ∀ i, i < s.ns.length → 0 ≤ atL (leftsL s (atL c) (atL k) (atL bs) t s.ns.length) i ∧ atL (leftsL s (atL c) (atL k) (atL bs) t s.ns.length) i ≤ 400 := fun i hi => by
    rw [leftsL_at _ _ _ _ _ hi]
    have h1 := oilF_bd hO hPL hTR (i := i + 1) (by omega)
    have h2 := hO.c1
    omega
  have hll := leftsL_len s (atL c) (atL k) (atL bs) t s.ns.length
  have hplay := fun W x1 x2 x3 x4 => rplay_l s A cp Ac Ak cc ck c k t Ab cb bs W HP.out HT.out x1 x2 x3 x4
  generalize leftsL s (atL c) (atL k) (atL bs) t s.ns.length = left at hrng hll hplay ⊢
  have HPLAY := Lib.hid hplay
  have HRNG := Lib.hid hrng
  have HLL := Lib.hid hll
  have e5 : many.tmod 5 = many % 5 := Int.tmod_eq_emod_of_nonneg hm.1
  obtain ⟨M, hM⟩ : ∃ M : Nat, many % 5 = M := ⟨(many % 5).toNat, by omega⟩
  have hM4 : M ≤ 4 := by omega
  rw [hM] at e5
  have l6 : left.length ≤ 6 := by omega
  have lp : 1 ≤ left.length := by omega
  have hb0 := hb.1
  have hb1 := hb.2
  clear hA hc hk hv hw hok htb hO hPL hTR hrng hplay hll hM hb
  have HB1 := Lib.hid (show Below w.heap.size w (((w.alloc (.cells #[.int .i64 s.cap, .int .i64 s.can, .int .i64 s.sl, .int .i64 s.sh, .slice A s.ns.length cp] 26)).alloc (.cells #[.slice Ac c.length cc, .slice Ak k.length ck] 29)).alloc (.cells #[.int .i64 t, .slice Ab bs.length cb] 31)) from (((Below.refl _ _).alloc (Nat.le_refl _) _).alloc (by simp) _).alloc (by simp; omega) _)
  go_enter Try.func44, Try.ntmps44
  go_wp2_with fail
  refine (HPLAY.out _ (HA.out.keep HB1.out (Nat.le_refl _)) (HC.out.keep HB1.out (Nat.le_refl _)) (HK.out.keep HB1.out (Nat.le_refl _)) (HV.out.keep HB1.out (Nat.le_refl _))).mono ?_
  rintro e w1 ⟨A1, c1, v2, v3, rfl, hl1, hb⟩
  have HL := Lib.hid hl1
  have HB := Lib.hid (HB1.out.trans (hb.mono HB1.out.size))
  clear hb hl1 HB1
  obtain ⟨i0, hi0', hz0', hz1', hz2'⟩ := info_parts Try.info85
  have hi0 := Lib.hid hi0'
  have hz0 := Lib.hid hz0'
  have hz1 := Lib.hid hz1'
  have hz2 := Lib.hid hz2'
  clear hi0' hz0' hz1' hz2'
  go_wp2_with fail
  go_loopw [16, 17] (DPRel s left bits w1) (fun _ i _ => 4 - (intOf i).toNat)
  case atStart => exact ⟨0, [], by omega, rfl, rfl, (fun d hd => by cases hd), World.ownsRow_nil _ _ _ _, fun _ => rfl, Below.refl _ _⟩
  case round =>
    obtain ⟨j, dips, hj, rfl, hdl, hdo, hown, hnl, hbe⟩ := hrel
    have HNL := Lib.hid hnl
    have HDO := Lib.hid hdo
    have HOW := Lib.hid hown
    have HBE := Lib.hid hbe
    have HDL := Lib.hid hdl
    have hwz := hbe.size
    clear hdo hown hbe hdl hnl
    by_cases hlt : j < M
    · have hlt' : decide ((j : Int) < (M : Int)) = true := by simpa using hlt
      have w2j : IntKind.i64.wrap (2 * (j : Int)) = 2 * (j : Int) := IntWalk.i64_in _ (by omega)
      have w3j : IntKind.i64.wrap (2 * (j : Int) + 3) = ((2 * j + 3 : Nat) : Int) := by rw [IntWalk.i64_in _ (by omega)]; omega
      have hwd := Lib.hid (hword.out wr (HB.out.trans (HBE.out.mono HB.out.size)) (2 * j + 3) (by omega))
      go_wp2_with fail
      refine hwd.out.mono ?_
      rintro e _ ⟨q, rfl, q0, q1, rfl⟩
      have em : q.tmod (left.length : Int) = q % (left.length : Int) := Int.tmod_eq_emod_of_nonneg q0
      have m0 := Int.emod_nonneg q (show (left.length : Int) ≠ 0 by omega)
      have m1 := Int.emod_lt_of_pos q (show 0 < (left.length : Int) by omega)
      obtain ⟨i, hi⟩ : ∃ i : Nat, q % (left.length : Int) = i := ⟨(q % (left.length : Int)).toNat, by omega⟩
      rw [hi] at em m0 m1
      have i0' : (0 : Int) ≤ (i : Int) := by omega
      have i1' : (i : Int) < (left.length : Int) := by omega
      have p1 : 1 ≤ (left.length : Int) := by omega
      have hin : i < left.length := by omega
      obtain ⟨b, o, rfl, d0⟩ := (HL.out.keep HBE.out (Nat.le_refl _)).at hin
      have hrg := HRNG.out i (by have := HLL.out; omega)
      obtain ⟨N, hN⟩ : ∃ N, atL left i = N := ⟨_, rfl⟩
      rw [hN] at d0 hrg
      have HN := Lib.hid hN
      have e64 : q.tdiv 64 = q / 64 := Int.tdiv_eq_ediv_of_nonneg q0
      have e20 : (q / 64).tmod 20 = q / 64 % 20 := Int.tmod_eq_emod_of_nonneg (by omega)
      obtain ⟨X, hX⟩ : ∃ X, q / 64 % 20 = X := ⟨_, rfl⟩
      have x0 : 0 ≤ X ∧ X ≤ 19 := by omega
      rw [hX] at e20
      have e8 : q.tdiv 8 = q / 8 := Int.tdiv_eq_ediv_of_nonneg q0
      have e84 : (q / 8).tmod 4 = q / 8 % 4 := Int.tmod_eq_emod_of_nonneg (by omega)
      obtain ⟨Y, hY⟩ : ∃ Y, q / 8 % 4 = Y := ⟨_, rfl⟩
      have y0 : 0 ≤ Y ∧ Y ≤ 3 := by omega
      rw [hY] at e84
      have e32 : q.tdiv 32 = q / 32 := Int.tdiv_eq_ediv_of_nonneg q0
      have e324 : (q / 32).tmod 4 = q / 32 % 4 := Int.tmod_eq_emod_of_nonneg (by omega)
      obtain ⟨Z, hZ⟩ : ∃ Z, q / 32 % 4 = Z := ⟨_, rfl⟩
      have z0 : 0 ≤ Z ∧ Z ≤ 3 := by omega
      rw [hZ] at e324
      have k0 : IntKind.i64.wrap (q / 64) = q / 64 := IntWalk.i64_in _ (by omega)
      have k1 : IntKind.i64.wrap (q / 8) = q / 8 := IntWalk.i64_in _ (by omega)
      have k2 : IntKind.i64.wrap (q / 32) = q / 32 := IntWalk.i64_in _ (by omega)
      clear hi hN hX hY hZ m0 m1
      have x400 := hrg.2
      have hrg0 := hrg.1
      have x01 := x0.1
      have x02 := x0.2
      have k3 : IntKind.i64.wrap (N - 3) = N - 3 := IntWalk.i64_in _ (by omega)
      have k4 : IntKind.i64.wrap (N - 3 - X) = N - 3 - X := IntWalk.i64_in _ (by omega)
      go_upto_if 54 with fail
      go_cut [20] from 49 to 61 (DNew N bits wr)
      case first =>
        go_wp2_with fail
        · go_meet
          case rel => exact ⟨_, rfl, by omega, by omega, fun e0 => absurd ‹((bits / 2 ^ j).tmod 2 == 1) = true› (by rw [e0]; simp), rfl⟩
        · go_meet
          case rel => exact ⟨_, rfl, by omega, by omega, fun e0 => absurd ‹((bits / 2 ^ j).tmod 2 == 1) = true› (by rw [e0]; simp), rfl⟩
        · go_meet
          case rel => exact ⟨_, rfl, by omega, by omega, fun _ => rfl, rfl⟩
      case rest =>
        obtain ⟨m, rfl, hm0, hm1, hmb, rfl⟩ := hcut
        have HMB := Lib.hid hmb
        clear hmb k3 k4 e64 e20 x0 x01 x02 k0
        have k5 : IntKind.i64.wrap (m - Y) = m - Y := IntWalk.i64_in _ (by omega)
        have k6 : IntKind.i64.wrap (m + Z) = m + Z := IntWalk.i64_in _ (by omega)
        obtain ⟨Av, cv, rfl⟩ : ∃ Av cv, u16 = .slice Av dips.length cv := own_slice HOW.out
        have hd4 : dips.length ≤ 4 := by have := HDL.out; omega
        by_cases hY : Y < m
        · by_cases hZ : m + Z < 400
          · have HNX := Lib.hid (HDO.out.snoc (k := i) (m := m) (lo := (m - Y)) (hi := (m + Z)) HLL.out hin ⟨hm0, hm1⟩ (by omega) (by omega) HN.out HMB.out)
            go_wp2_with (at_builtin; refine wpList_append_own _ rfl _ _ 55 rfl w1.heap.size 85 i0 (.agg #[.int .i64 0, .int .i64 0, .int .i64 0]) 3 24 Try.underlying55 hi0.out hz0.out hz1.out hz2.out rfl (by decide) _ _ _ rfl (HOW.out.alloc _) ⟨wc.heap.size, 0, none⟩ 1 1 [.int .i64 i, .int .i64 (m - Y), .int .i64 (m + Z)] rfl rfl (World.news_of_block (cs := #[.int .i64 i, .int .i64 (m - Y), .int .i64 (m + Z)]) (t := 85) (fr := (0, 0)) (Go.heap_alloc_new wc _)) (by simp [Value.oneCell']) (by unfold maxLen; omega) (by omega) (by simp; omega) ?_)
            intro va w6 hown6 hgrow hnil6
            have hx6 : Below w1.heap.size wc w6 := ((Below.refl _ wc).alloc (by omega) _).trans (below_of_grown hgrow (HOW.out.alloc _) (Nat.le_refl _) (by simp; omega))
            have HOWN6 := Lib.hid hown6
            have HBE6 := Lib.hid (HBE.out.trans (hx6.mono (Nat.le_refl _)))
            clear hown6 hgrow hnil6 hx6
            go_wp2_with fail
            go_roundw
            case rel => exact ⟨j + 1, dips ++ [⟨i, m - Y, m + Z⟩], by omega, by go_num, by rw [List.length_append, HDL.out]; rfl, HNX.out, by rw [flatD_snoc, List.length_append]; exact HOWN6.out, (fun h => by simp at h), HBE6.out⟩
            case measure => simp [intOf]; omega
          · have HNX := Lib.hid (HDO.out.snoc (k := i) (m := m) (lo := (m - Y)) (hi := 400) HLL.out hin ⟨hm0, hm1⟩ (by omega) (by omega) HN.out HMB.out)
            go_wp2_with (at_builtin; refine wpList_append_own _ rfl _ _ 55 rfl w1.heap.size 85 i0 (.agg #[.int .i64 0, .int .i64 0, .int .i64 0]) 3 24 Try.underlying55 hi0.out hz0.out hz1.out hz2.out rfl (by decide) _ _ _ rfl (HOW.out.alloc _) ⟨wc.heap.size, 0, none⟩ 1 1 [.int .i64 i, .int .i64 (m - Y), .int .i64 400] rfl rfl (World.news_of_block (cs := #[.int .i64 i, .int .i64 (m - Y), .int .i64 400]) (t := 85) (fr := (0, 0)) (Go.heap_alloc_new wc _)) (by simp [Value.oneCell']) (by unfold maxLen; omega) (by omega) (by simp; omega) ?_)
            intro va w6 hown6 hgrow hnil6
            have hx6 : Below w1.heap.size wc w6 := ((Below.refl _ wc).alloc (by omega) _).trans (below_of_grown hgrow (HOW.out.alloc _) (Nat.le_refl _) (by simp; omega))
            have HOWN6 := Lib.hid hown6
            have HBE6 := Lib.hid (HBE.out.trans (hx6.mono (Nat.le_refl _)))
            clear hown6 hgrow hnil6 hx6
            go_wp2_with fail
            go_roundw
            case rel => exact ⟨j + 1, dips ++ [⟨i, m - Y, 400⟩], by omega, by go_num, by rw [List.length_append, HDL.out]; rfl, HNX.out, by rw [flatD_snoc, List.length_append]; exact HOWN6.out, (fun h => by simp at h), HBE6.out⟩
            case measure => simp [intOf]; omega
        · by_cases hZ : m + Z < 400
          · have HNX := Lib.hid (HDO.out.snoc (k := i) (m := m) (lo := 0) (hi := (m + Z)) HLL.out hin ⟨hm0, hm1⟩ (by omega) (by omega) HN.out HMB.out)
            go_wp2_with (at_builtin; refine wpList_append_own _ rfl _ _ 55 rfl w1.heap.size 85 i0 (.agg #[.int .i64 0, .int .i64 0, .int .i64 0]) 3 24 Try.underlying55 hi0.out hz0.out hz1.out hz2.out rfl (by decide) _ _ _ rfl (HOW.out.alloc _) ⟨wc.heap.size, 0, none⟩ 1 1 [.int .i64 i, .int .i64 0, .int .i64 (m + Z)] rfl rfl (World.news_of_block (cs := #[.int .i64 i, .int .i64 0, .int .i64 (m + Z)]) (t := 85) (fr := (0, 0)) (Go.heap_alloc_new wc _)) (by simp [Value.oneCell']) (by unfold maxLen; omega) (by omega) (by simp; omega) ?_)
            intro va w6 hown6 hgrow hnil6
            have hx6 : Below w1.heap.size wc w6 := ((Below.refl _ wc).alloc (by omega) _).trans (below_of_grown hgrow (HOW.out.alloc _) (Nat.le_refl _) (by simp; omega))
            have HOWN6 := Lib.hid hown6
            have HBE6 := Lib.hid (HBE.out.trans (hx6.mono (Nat.le_refl _)))
            clear hown6 hgrow hnil6 hx6
            go_wp2_with fail
            go_roundw
            case rel => exact ⟨j + 1, dips ++ [⟨i, 0, m + Z⟩], by omega, by go_num, by rw [List.length_append, HDL.out]; rfl, HNX.out, by rw [flatD_snoc, List.length_append]; exact HOWN6.out, (fun h => by simp at h), HBE6.out⟩
            case measure => simp [intOf]; omega
          · exfalso; omega
    · have hlt' : decide ((j : Int) < (M : Int)) = false := by simpa using hlt
      have HF := Lib.hid (show Below w.heap.size w wr from HB.out.trans (HBE.out.mono HB.out.size))
      obtain ⟨Ad, cd, rfl, hda, hnil⟩ := DpsAt.of_own85 HOW.out
      have HDA := Lib.hid hda
      have HNN := Lib.hid (show dips = [] → Ad = none ∧ cd = 0 from fun h => by
        have := HNL.out h
        simp only [Value.slice.injEq] at this
        exact ⟨this.1, this.2.2⟩)
      clear hda hnil
      go_wp2_with fail
      go_ret
      exact ⟨Ad, cd, dips, rfl, HDA.out, HNN.out, by have := HDL.out; omega, HDO.out, HF.out⟩

/-- One step of a region: a list's dips are appended to a list that the call made (it may be nil). -/
theorem step_app_dips {w : World} {ops : Array Oper} {o : Oper} {a : Act} {K : Act → World → Prop} {Q : Exit → Act → World → Prop} {E : Prop} (hgd : o.guard = none) (s x : Operand)
    (ho : o.op = .call { callee := .builtin .append, args := #[s, x], argTypes := #[55, 55] }) (base : Nat) (v : Value) (hs : a.eval s = v) (hown : w.ownsRow base 85 3 v 0 [])
    (Ad : Option Addr) (cd : Nat) (dips : List Dp) (hx : a.eval x = .slice Ad dips.length cd) (hd : DpsAt w Ad dips) (hnil : dips = [] → Ad = none ∧ cd = 0) (hl : dips.length ≤ 1000) (hbase : base ≤ w.heap.size)
    (h : ∀ v' w', w'.ownsRow base 85 3 v' dips.length (flatD dips) → w.grownBy w' v.ownBlock → w.heap.size ≤ w'.heap.size → K (a.put o.dst v') w') :
    if Region.wanted o (yielded ops a.tmps) = true then Oper.wp Try.prog o a w K Q else E := by
  obtain ⟨i0, hi0, hz0, hz1, hz2⟩ := info_parts Try.info85
  rcases hd with rfl | ⟨b, of, rfl, hc⟩
  · obtain ⟨rfl, rfl⟩ := hnil rfl
    have hw : Region.wanted o (yielded ops a.tmps) = true := by simp [Region.wanted, hgd]
    rw [if_pos hw]
    have hrun := run_append_owned_none (P := Try.prog) (w := w) base 55 o.type 85 i0 3 Try.underlying55 hi0 v 0 [] hown
    unfold Oper.wp
    simp only [List.length_nil] at hx
    simp [execOp, ho, resolve, invoke, builtin, hs, hx, hrun, Result.andThen]
    exact h v w hown ⟨rfl, rfl, rfl, Nat.le_refl _, fun _ _ _ => rfl⟩ (Nat.le_refl _)
  · by_cases hp : dips = []
    · have := (hnil hp).1; cases this
    · have hpos : 0 < dips.length := by
        cases dips with
        | nil => exact absurd rfl hp
        | cons _ _ => simp
      refine step_append_lies w hgd s x 55 ho base 85 i0 _ 3 24 Try.underlying55 hi0 hz0 hz1 hz2 rfl (by omega) v 0 [] hs hown ⟨b, of, none⟩ dips.length cd (flatD dips) hx (flatD_len dips) ?_ ?_ hpos (by unfold maxLen; omega) (by omega) hbase w.heap.size rfl ?_
      · intro j u hu
        have hj : j < dips.length * 3 := by
          have := (List.getElem?_eq_some_iff.1 hu).1
          rwa [flatD_len] at this
        obtain ⟨q, r, rfl, hr⟩ : ∃ q r, j = q * 3 + r ∧ r < 3 := ⟨j / 3, j % 3, by omega, by omega⟩
        have hq : q < dips.length := by omega
        obtain ⟨f0, f1, f2⟩ := flatD_at hq
        obtain ⟨e0, e1, e2⟩ := hc q hq
        have hadd : (⟨b, of, none⟩ : Addr).add (q * 3 + r) = ⟨b, of + (q * 3 + r), none⟩ := by unfold Addr.add; split <;> simp_all
        rw [hadd]
        have : r = 0 ∨ r = 1 ∨ r = 2 := by omega
        rcases this with rfl | rfl | rfl
        · rw [Nat.add_zero] at hu ⊢; rw [f0] at hu; rw [← hu]; exact e0
        · rw [f1] at hu; rw [← hu, show of + (q * 3 + 1) = of + q * 3 + 1 by omega]; exact e1
        · rw [f2] at hu; rw [← hu, show of + (q * 3 + 2) = of + q * 3 + 2 by omega]; exact e2
      · intro u hu
        obtain ⟨j, hj, rfl⟩ := List.mem_iff_getElem.1 hu
        rw [flatD_len] at hj
        obtain ⟨q, r, rfl, hr⟩ : ∃ q r, j = q * 3 + r ∧ r < 3 := ⟨j / 3, j % 3, by omega, by omega⟩
        obtain ⟨f0, f1, f2⟩ := flatD_at (show q < dips.length by omega)
        have : r = 0 ∨ r = 1 ∨ r = 2 := by omega
        rcases this with rfl | rfl | rfl
        · have := (List.getElem?_eq_some_iff.1 f0).2; simp only [Nat.add_zero]; rw [this]; rfl
        · have := (List.getElem?_eq_some_iff.1 f1).2; rw [this]; rfl
        · have := (List.getElem?_eq_some_iff.1 f2).2; rw [this]; rfl
      · intro g cap w' h1 h2 h3 h4
        rw [Nat.zero_add, List.nil_append] at h1
        rw [Nat.zero_add]
        exact h _ w' h1 h2 h2.size
/-- Oil, whatever the dips say. -/
def OilAny (s : St) (c k : Nat → Int) (dips : List Dp) (A1 : Option Addr) (c1 m : Nat) (E : Int) (L H : Nat → Int) (W : World) : Prop :=
  (Cons s c k dips ∧ E = 0 ∧ m = s.ns.length ∧ IsRng s c k dips L H ∧ RngsAt W (.slice A1 m c1) m L H) ∨ (¬ Cons s c k dips ∧ E = 9 ∧ m = 0)
theorem OilAny.keep {s : St} {c k : Nat → Int} {dips : List Dp} {A1 : Option Addr} {c1 m : Nat} {E : Int} {L H : Nat → Int} {W W' : World} {B : Nat} (h : OilAny s c k dips A1 c1 m E L H W) (hb : Below B W W') (hB : W.heap.size ≤ B) : OilAny s c k dips A1 c1 m E L H W' := by
  rcases h with ⟨h1, h2, h3, h4, h5⟩ | h
  · exact .inl ⟨h1, h2, h3, h4, h5.keep hb hB⟩
  · exact .inr h
theorem OilAny.drew {s : St} {c k : Nat → Int} {dips : List Dp} {A1 : Option Addr} {c1 m : Nat} {E : Int} {L H : Nat → Int} {W : World} (h : OilAny s c k dips A1 c1 m E L H W) : OilAny s c k dips A1 c1 m E L H W.drew := h.keep ((Below.refl _ _).drew) (Nat.le_refl _)
theorem oil_gen (s : St) (A : Option Addr) (cp : Nat) (Ac Ak : Option Addr) (cc ck : Nat) (c k : List Int) (Ad : Option Addr) (cd : Nat) (dips : List Dp) (w : World) (hA : NtsAt w A s.ns) (hc : IntsAt w (.slice Ac c.length cc) c) (hk : IntsAt w (.slice Ak k.length ck) k) (hd : DpsAt w Ad dips) (h : dippedL s c k dips = 0) :
    Calls Try.prog 45 #[.agg #[.int .i64 s.cap, .int .i64 s.can, .int .i64 s.sl, .int .i64 s.sh, .slice A s.ns.length cp], .agg #[.slice Ac c.length cc, .slice Ak k.length ck], .slice Ad dips.length cd] w fun e w' => ∃ A1 c1 m E L H, e = .returned (.tuple #[.slice A1 m c1, .int .i64 E]) ∧ OilAny s (atL c) (atL k) dips A1 c1 m E L H w' ∧ Below w.heap.size w w' := by
  by_cases hx : Cons s (atL c) (atL k) dips
  · exact (oil_yes s A cp Ac Ak cc ck c k Ad cd dips w hA hc hk hd h hx).mono fun e w' ⟨A1, c1, L, H, he, h1, h2, h3⟩ => ⟨A1, c1, _, 0, L, H, he, .inl ⟨hx, rfl, rfl, h1, h2⟩, h3⟩
  · exact (oil_fail s A cp Ac Ak cc ck c k Ad cd dips w hA hc hk hd h hx).mono fun e w' ⟨he, h3⟩ => ⟨none, 0, 0, 9, fun _ => 0, fun _ => 0, he, .inr ⟨hx, rfl, rfl⟩, h3⟩
theorem DipOk.valid {s : St} {left : List Int} {bits : Int} {dips : List Dp} {c k : List Int} (h : DipOk s left bits dips) (hp : planL s c k = 0) (hl : dips.length ≤ 4) : dippedL s c k dips = 0 :=
  dippedL_of hp (by omega) fun d hd => (h d hd).1
end Go.Proofs.Ytefhdcecbmgljaa

/-
  cheapest: the smallest cost of all nights from a spot on.
-/
import Derived.Test.YtefhdcecbmgljaaStep
import Derived.Test.YtefhdcecbmgljaaSpots
set_option linter.all false
namespace Go.Proofs.Ytefhdcecbmgljaa
open Go.RowKit Go.WalkArith

/-- Nothing that lay has turned but one block. -/
structure MK (b : Nat) (W W' : World) : Prop where
  os : W'.os = W.os
  tape : W'.tape = W.tape
  output : W'.output = W.output
  size : W.heap.size ≤ W'.heap.size
  block : ∀ k, k < W.heap.size → k ≠ b → W'.heap[k]? = W.heap[k]?
theorem MK.refl (b : Nat) (W : World) : MK b W W := ⟨rfl, rfl, rfl, Nat.le_refl _, fun _ _ _ => rfl⟩
theorem MK.trans {b : Nat} {W W' W'' : World} (h : MK b W W') (k : MK b W' W'') : MK b W W'' :=
  ⟨k.os.trans h.os, k.tape.trans h.tape, k.output.trans h.output, Nat.le_trans h.size k.size, fun i hi h2 => (k.block i (Nat.lt_of_lt_of_le hi h.size) h2).trans (h.block i hi h2)⟩
theorem MK.of_below {b : Nat} {W W' : World} (h : Below W.heap.size W W') : MK b W W' := ⟨h.os, h.tape, h.output, h.size, fun k hk _ => h.block k hk⟩
theorem MK.below {b B : Nat} {W0 W W' : World} (h : MK b W W') (hb : Below B W0 W) (hB : B ≤ b) (hs : B ≤ W.heap.size) : Below B W0 W' :=
  hb.trans ⟨h.os, h.tape, h.output, h.size, fun k hk => h.block k (Nat.lt_of_lt_of_le hk hs) (by omega)⟩
theorem MapOnly.mk' {b : Nat} {W W' : World} (h : MapOnly b W W') : MK b W W' := ⟨h.os, h.tape, h.output, Nat.le_of_eq h.size.symm, fun k _ h2 => h.block k h2⟩
theorem MK.cell {b : Nat} {W W' : World} (h : MK b W W') {B o : Nat} {v : Value} (hc : W.cell? ⟨B, o, none⟩ = some v) (hB : B ≠ b) : W'.cell? ⟨B, o, none⟩ = some v :=
  (World.cell?_of_block (a := ⟨B, o, none⟩) (h.block B (World.block_lt_of_cell? W _ hc) hB)).trans hc

/-- What was found is right. -/
def Memo (s : St) (J : Job) (m : Int → Int → Option Int) : Prop := ∀ (i o v : Int), m i o = some v → ∃ r j : Nat, i = j ∧ j + r = s.ns.length ∧ v = chp s J r j o
theorem Memo.upd {s : St} {J : Job} {m : Int → Int → Option Int} (h : Memo s J m) {r j : Nat} (hr : j + r = s.ns.length) (o : Int) : Memo s J (updS m j o (chp s J r j o)) := by
  intro i o' v hv
  unfold updS at hv
  split at hv
  · rename_i e
    obtain ⟨rfl, rfl⟩ := e
    injection hv with hv
    exact ⟨r, j, rfl, hr, hv.symm⟩
  · exact h i o' v hv

/-- How cheapest ends. -/
def CPost (s : St) (J : Job) (Bk r i : Nat) (o : Int) (W : World) (e : Ending) (W' : World) : Prop :=
  e = .returned (.int .i64 (chp s J r i o)) ∧ MK Bk W W' ∧ ∃ m, SpotMap W' Bk m ∧ Memo s J m
/-- Between two rounds of its loop. -/
def CRel (s : St) (J : Job) (Bk r i : Nat) (o : Int) (w1 : World) (v5 v7 : Value) (wr : World) : Prop :=
  ∃ q : Nat, q ≤ numN J i ∧ v7 = .int .i64 (J.lo i + (q : Int)) ∧ v5 = .int .i64 (bestTo (chpG s J r i o) q) ∧ MK Bk w1 wr ∧ ∃ m, SpotMap wr Bk m ∧ Memo s J m
theorem nextO_bd {s : St} {J : Job} (hok : StOk s) (hJ : JobS s J) {i : Nat} {o n : Int} (hi : i < s.ns.length) (hn : J.lo i ≤ n ∧ n ≤ J.hi i) (ho : 0 ≤ o) : 0 ≤ nextO s J i n o ∧ nextO s J i n o ≤ 400 := by
  obtain ⟨hc, hk⟩ := hJ.bd i n hi hn.1 hn.2
  have hnt := hok.nt i hi
  have := leftO_bd hok hi (c := J.c i n) (k := J.k i n) (b := (ntAt s i).hi) (o := o) (by omega) (by omega) (by omega) ho
  have := hok.c1
  unfold nextO
  omega
theorem chp_bd {s : St} {J : Job} (hJ : JobOk J) (r i : Nat) (o : Int) (hr : r ≤ 6) : -10000 ≤ chp s J r i o ∧ chp s J r i o ≤ 1048576 := by
  refine ⟨by have := chp_low (s := s) hJ r i o; omega, ?_⟩
  cases r with
  | zero => simp [chp]
  | succ r => rw [chp_succ]; exact bestTo_never _ _
theorem bestTo_bd {s : St} {J : Job} (hJ : JobOk J) (r i : Nat) (o : Int) (hr : r ≤ 6) (q : Nat) (hq : q ≤ numN J i) : -20000 ≤ bestTo (chpG s J r i o) q ∧ bestTo (chpG s J r i o) q ≤ 1048576 := by
  refine ⟨?_, bestTo_never _ _⟩
  rcases bestTo_has (chpG s J r i o) q with h | ⟨j, hj, h⟩
  · rw [h]; unfold never; omega
  · unfold chpG at h
    split at h
    · injection h with h
      unfold numN at hq
      have h1 := hJ i (J.lo i + (j : Int)) (by omega) (by omega)
      have h2 := (chp_bd (s := s) hJ r (i + 1) (nextO s J i (J.lo i + (j : Int)) o) hr).1
      have h3 : bestTo (chpG s J r i o) q = J.cost i (J.lo i + (j : Int)) + chp s J r (i + 1) (nextO s J i (J.lo i + (j : Int)) o) := h.symm
      rw [h3]; omega
    · cases h
theorem key_wf {x : Int} (h : -1000000 ≤ x ∧ x ≤ 1000000) : (Lit.int .i64 x).wf = true := wf_i64 ⟨by omega, by omega⟩

section
variable {w0 W W' : World} {Bw Bk : Nat} {s : St} {A : Option Addr} {cp Bs Bl : Nat}
theorem WkEnvD.move (h : WkEnvD w0 Bw Bk s A cp Bs Bl W) (k : MK Bk W W') : WkEnvD w0 Bw Bk s A cp Bs Bl W' :=
  ⟨(k.block _ h.lt h.ne).trans h.wk, fun j hj => (k.block j (Nat.lt_of_lt_of_le hj h.size) (by have := h.lk; omega)).trans (h.old j hj), Nat.le_trans h.size k.size, h.ne, h.lk, h.nts⟩
end

set_option maxRecDepth 100000 in
set_option maxHeartbeats 16000000 in
theorem cheapD_any (w0 : World) (Bw Bk : Nat) (s : St) (J : Job) (A : Option Addr) (cp Bs Bl : Nat) (hok : StOk s) (hJ : JobS s J) (hJo : JobOk J) (hF : JobFD w0 s J Bs Bl) : ∀ (r i : Nat) (o : Int) (W : World) (m : Int → Int → Option Int), i + r = s.ns.length → (0 ≤ o ∧ o ≤ 400) → WkEnvD w0 Bw Bk s A cp Bs Bl W → SpotMap W Bk m → Memo s J m →
    Calls Try.prog 107 #[.pointer (some ⟨Bw, 0, none⟩), .agg #[.int .i64 i, .int .i64 o]] W (CPost s J Bk r i o W) := by
  have hlen := hok.len
  intro r
  induction r with
  | zero =>
    intro i o W m hir ho hE hM hm
    have hb0 : Below W.heap.size W (W.alloc (.cells #[.int .i64 i, .int .i64 o] 155)) := (Below.refl _ _).alloc (Nat.le_refl _) _
    have hn0 := Go.heap_alloc_new W (.cells #[.int .i64 i, .int .i64 o] 155)
    have HE1 := Lib.hid (hE.keep hb0)
    have HN0 := Lib.hid hn0
    have HB0 := Lib.hid hb0
    have HM0 := Lib.hid (hM.of_block (hb0.block _ hM.lt))
    have HMM := Lib.hid hm
    have hieq : ((i : Int) == (s.ns.length : Int)) = true := by simp; omega
    have HIR := Lib.hid hir
    clear hok hJ hJo hF hb0 hn0 hE hM hm hir
    go_enter Try.func107, Try.ntmps107
    go_wp2_with fail
    generalize W.alloc (.cells #[.int .i64 i, .int .i64 o] 155) = w1 at HE1 HN0 HB0 HM0 ⊢
    obtain ⟨Bt, hBt⟩ : ∃ Bt, W.heap.size = Bt := ⟨_, rfl⟩
    rw [hBt] at HN0 ⊢
    clear hBt
    obtain ⟨x0, x1, x2, x3, x4, x5, x6, x7, x8, x9⟩ := HE1.out.cells
    have t0 : w1.cell? ⟨Bt, 0, none⟩ = some (.int .i64 (i : Int)) := by simp [World.cell?, HN0.out]
    clear x0 x1 x2 x3 x5 x6 x7 x8 x9
    refine wp_region_held_drew (S := fun X => X.cell? ⟨Bw, 4, none⟩ = some (.slice A s.ns.length cp) ∧ X.cell? ⟨Bt, 0, none⟩ = some (.int .i64 (i : Int))) (by kernel_rfl) (⟨x4, t0⟩) (fun hS0 => ?_)
    refine tkH 0 ⟨some 10, .fieldAddr 155 (.tmp 3) 0, 0, "oil.go:145", #[], none⟩ (v := ?_) hS0 ?_ ?_
    rotate_left
    · intro X ⟨x0, x1⟩; go_simp; try with_reducible rfl
    simp only [Act.put, List.setIfInBounds_toArray, List.set_cons_zero, List.set_cons_succ, Array.toArray_toList]
    refine tkH 1 ⟨some 11, .load 3 (.tmp 10), 3, "oil.go:145", #[⟨0, .data⟩], none⟩ (v := ?_) hS0 ?_ ?_
    rotate_left
    · intro X ⟨x0, x1⟩; go_simp; try with_reducible rfl
    simp only [Act.put, List.setIfInBounds_toArray, List.set_cons_zero, List.set_cons_succ, Array.toArray_toList]
    refine tkH 2 ⟨some 12, .move (.tmp 0), 126, "oil.go:145", #[], none⟩ (v := ?_) hS0 ?_ ?_
    rotate_left
    · intro X ⟨x0, x1⟩; go_simp; try with_reducible rfl
    simp only [Act.put, List.setIfInBounds_toArray, List.set_cons_zero, List.set_cons_succ, Array.toArray_toList]
    refine tkH 3 ⟨some 13, .nilCheck (.tmp 12), 0, "oil.go:145", #[⟨2, .data⟩], none⟩ (v := ?_) hS0 ?_ ?_
    rotate_left
    · intro X ⟨x0, x1⟩; go_simp; try with_reducible rfl
    simp only [Act.put, List.setIfInBounds_toArray, List.set_cons_zero, List.set_cons_succ, Array.toArray_toList]
    refine tkH 4 ⟨some 14, .fieldAddr 131 (.tmp 13) 0, 0, "oil.go:145", #[⟨3, .data⟩], none⟩ (v := ?_) hS0 ?_ ?_
    rotate_left
    · intro X ⟨x0, x1⟩; go_simp; try with_reducible rfl
    simp only [Act.put, List.setIfInBounds_toArray, List.set_cons_zero, List.set_cons_succ, Array.toArray_toList]
    refine tkH 5 ⟨some 15, .fieldAddr 39 (.tmp 14) 3, 0, "oil.go:145", #[⟨4, .data⟩], none⟩ (v := ?_) hS0 ?_ ?_
    rotate_left
    · intro X ⟨x0, x1⟩; go_simp; try with_reducible rfl
    simp only [Act.put, List.setIfInBounds_toArray, List.set_cons_zero, List.set_cons_succ, Array.toArray_toList]
    refine tkH 6 ⟨some 16, .load 37 (.tmp 15), 37, "oil.go:145", #[⟨5, .data⟩], none⟩ (v := ?_) hS0 ?_ ?_
    rotate_left
    · intro X ⟨x0, x1⟩; go_simp; try with_reducible rfl
    simp only [Act.put, List.setIfInBounds_toArray, List.set_cons_zero, List.set_cons_succ, Array.toArray_toList]
    refine tkH 7 ⟨some 17, .call ⟨.builtin .len, #[.tmp 16], #[37]⟩, 3, "oil.go:145", #[⟨6, .data⟩], none⟩ (v := ?_) hS0 ?_ ?_
    rotate_left
    · intro X ⟨x0, x1⟩; go_simp; try with_reducible rfl
    simp only [Act.put, List.setIfInBounds_toArray, List.set_cons_zero, List.set_cons_succ, Array.toArray_toList]
    refine tkH 8 ⟨some 18, .binOp .eql 3 (.tmp 11) (.tmp 17) 3, 4, "oil.go:145", #[⟨1, .data⟩, ⟨7, .data⟩], none⟩ (v := ?_) hS0 ?_ ?_
    rotate_left
    · intro X ⟨x0, x1⟩; go_simp; try with_reducible rfl
    simp only [Act.put, List.setIfInBounds_toArray, List.set_cons_zero, List.set_cons_succ, Array.toArray_toList]
    refine wpAnyH_done (by kernel_rfl) ?_ _
    clear hS0
    have hfin : CPost s J Bk 0 i o W (.returned (.int .i64 0)) w1.drew := ⟨rfl, MK.of_below (HB0.out.drew), _, HM0.out, HMM.out⟩
    have HFIN := Lib.hid hfin
    clear hfin x4 t0
    go_wp2_with fail
    go_ret
    exact HFIN.out
  | succ r ih =>
    intro i o W m hir ho hE hM hm
    have hb0 : Below W.heap.size W (W.alloc (.cells #[.int .i64 i, .int .i64 o] 155)) := (Below.refl _ _).alloc (Nat.le_refl _) _
    have hn0 := Go.heap_alloc_new W (.cells #[.int .i64 i, .int .i64 o] 155)
    have hwk := hE.lk
    have lBk := hM.lt
    have HE1 := Lib.hid (hE.keep hb0)
    have HN0 := Lib.hid hn0
    have HB0 := Lib.hid hb0
    have HM0 := Lib.hid (hM.of_block (hb0.block _ hM.lt))
    have HMM := Lib.hid hm
    have hieq : ((i : Int) == (s.ns.length : Int)) = false := by simp; omega
    have HIR := Lib.hid hir
    have hi : i < s.ns.length := by omega
    have hr6 : r ≤ 5 := by omega
    have IH := Lib.hid ih
    have HOK := Lib.hid hok
    have HJ := Lib.hid hJ
    have HJO := Lib.hid hJo
    have HF := Lib.hid hF
    have hrng := hJ.rng i hi
    have lwW := hE.lt
    have nwk := hE.ne
    clear hok hJ hJo hF hb0 hn0 hE hM hm hir ih
    go_enter Try.func107, Try.ntmps107
    go_wp2_with fail
    generalize W.alloc (.cells #[.int .i64 i, .int .i64 o] 155) = w1 at HE1 HN0 HB0 HM0 ⊢
    obtain ⟨Bt, hBt⟩ : ∃ Bt, W.heap.size = Bt := ⟨_, rfl⟩
    have ntk : Bt ≠ Bk := by omega
    have oBt : W.heap.size ≤ Bt := by omega
    rw [hBt] at HN0 ⊢
    clear hBt
    obtain ⟨x0, x1, x2, x3, x4, x5, x6, x7, x8, x9⟩ := HE1.out.cells
    have t0 : w1.cell? ⟨Bt, 0, none⟩ = some (.int .i64 (i : Int)) := by simp [World.cell?, HN0.out]
    have t1 : w1.cell? ⟨Bt, 1, none⟩ = some (.int .i64 o) := by simp [World.cell?, HN0.out]
    clear x0 x1 x2 x3 x6 x7 x8
    refine wp_region_held_drew (S := fun X => X.cell? ⟨Bw, 4, none⟩ = some (.slice A s.ns.length cp) ∧ X.cell? ⟨Bt, 0, none⟩ = some (.int .i64 (i : Int))) (by kernel_rfl) (⟨x4, t0⟩) (fun hS0 => ?_)
    refine tkH 0 ⟨some 10, .fieldAddr 155 (.tmp 3) 0, 0, "oil.go:145", #[], none⟩ (v := ?_) hS0 ?_ ?_
    rotate_left
    · intro X ⟨x0, x1⟩; go_simp; try with_reducible rfl
    simp only [Act.put, List.setIfInBounds_toArray, List.set_cons_zero, List.set_cons_succ, Array.toArray_toList]
    refine tkH 1 ⟨some 11, .load 3 (.tmp 10), 3, "oil.go:145", #[⟨0, .data⟩], none⟩ (v := ?_) hS0 ?_ ?_
    rotate_left
    · intro X ⟨x0, x1⟩; go_simp; try with_reducible rfl
    simp only [Act.put, List.setIfInBounds_toArray, List.set_cons_zero, List.set_cons_succ, Array.toArray_toList]
    refine tkH 2 ⟨some 12, .move (.tmp 0), 126, "oil.go:145", #[], none⟩ (v := ?_) hS0 ?_ ?_
    rotate_left
    · intro X ⟨x0, x1⟩; go_simp; try with_reducible rfl
    simp only [Act.put, List.setIfInBounds_toArray, List.set_cons_zero, List.set_cons_succ, Array.toArray_toList]
    refine tkH 3 ⟨some 13, .nilCheck (.tmp 12), 0, "oil.go:145", #[⟨2, .data⟩], none⟩ (v := ?_) hS0 ?_ ?_
    rotate_left
    · intro X ⟨x0, x1⟩; go_simp; try with_reducible rfl
    simp only [Act.put, List.setIfInBounds_toArray, List.set_cons_zero, List.set_cons_succ, Array.toArray_toList]
    refine tkH 4 ⟨some 14, .fieldAddr 131 (.tmp 13) 0, 0, "oil.go:145", #[⟨3, .data⟩], none⟩ (v := ?_) hS0 ?_ ?_
    rotate_left
    · intro X ⟨x0, x1⟩; go_simp; try with_reducible rfl
    simp only [Act.put, List.setIfInBounds_toArray, List.set_cons_zero, List.set_cons_succ, Array.toArray_toList]
    refine tkH 5 ⟨some 15, .fieldAddr 39 (.tmp 14) 3, 0, "oil.go:145", #[⟨4, .data⟩], none⟩ (v := ?_) hS0 ?_ ?_
    rotate_left
    · intro X ⟨x0, x1⟩; go_simp; try with_reducible rfl
    simp only [Act.put, List.setIfInBounds_toArray, List.set_cons_zero, List.set_cons_succ, Array.toArray_toList]
    refine tkH 6 ⟨some 16, .load 37 (.tmp 15), 37, "oil.go:145", #[⟨5, .data⟩], none⟩ (v := ?_) hS0 ?_ ?_
    rotate_left
    · intro X ⟨x0, x1⟩; go_simp; try with_reducible rfl
    simp only [Act.put, List.setIfInBounds_toArray, List.set_cons_zero, List.set_cons_succ, Array.toArray_toList]
    refine tkH 7 ⟨some 17, .call ⟨.builtin .len, #[.tmp 16], #[37]⟩, 3, "oil.go:145", #[⟨6, .data⟩], none⟩ (v := ?_) hS0 ?_ ?_
    rotate_left
    · intro X ⟨x0, x1⟩; go_simp; try with_reducible rfl
    simp only [Act.put, List.setIfInBounds_toArray, List.set_cons_zero, List.set_cons_succ, Array.toArray_toList]
    refine tkH 8 ⟨some 18, .binOp .eql 3 (.tmp 11) (.tmp 17) 3, 4, "oil.go:145", #[⟨1, .data⟩, ⟨7, .data⟩], none⟩ (v := ?_) hS0 ?_ ?_
    rotate_left
    · intro X ⟨x0, x1⟩; go_simp; try with_reducible rfl
    simp only [Act.put, List.setIfInBounds_toArray, List.set_cons_zero, List.set_cons_succ, Array.toArray_toList]
    refine wpAnyH_done (by kernel_rfl) ?_ _
    clear hS0
    clear x4
    have hd2 : Below w1.heap.size w1 w1.drew := (Below.refl _ _).drew
    have HE2 := Lib.hid (HE1.out.keep hd2)
    have HM2 := Lib.hid (HM0.out.of_block (w' := w1.drew) rfl)
    have HB2 := Lib.hid (HB0.out.drew)
    have HN2 := Lib.hid (show w1.drew.heap[Bt]? = _ from HN0.out)
    replace t0 := cell_later hd2 t0
    replace t1 := cell_later hd2 t1
    replace x5 := cell_later hd2 x5
    replace x9 := cell_later hd2 x9
    clear hd2 HE1 HM0 HB0 HN0
    go_wp2_with fail
    generalize w1.drew = w2 at HE2 HM2 HB2 HN2 t0 t1 x5 x9 ⊢
    have hkey := spot_key (i : Int) o (key_wf (by omega)) (key_wf (by omega))
    have hlk := (HM2.out.of_block (w' := w2.drew) rfl).run_lookup hkey
    unfold spotV at hlk
    obtain ⟨mv, hmv⟩ : ∃ mv, m i o = mv := ⟨_, rfl⟩
    rw [hmv] at hlk
    have HKEY := Lib.hid hkey
    have HMV := Lib.hid hmv
    clear hkey hmv
    refine wp_region_held_drew (S := fun X => X.cell? ⟨Bw, 9, none⟩ = some (.map (some Bk)) ∧ X.cell? ⟨Bt, 0, none⟩ = some (.int .i64 (i : Int)) ∧ X.cell? ⟨Bt, 1, none⟩ = some (.int .i64 o)) (by kernel_rfl) (⟨x9, t0, t1⟩) (fun hS0 => ?_)
    refine tkH 0 ⟨some 20, .move (.tmp 0), 126, "oil.go:148", #[], none⟩ (v := ?_) hS0 ?_ ?_
    rotate_left
    · intro X ⟨x0, x1, x2⟩; go_simp; try with_reducible rfl
    simp only [Act.put, List.setIfInBounds_toArray, List.set_cons_zero, List.set_cons_succ, Array.toArray_toList]
    refine tkH 1 ⟨some 21, .nilCheck (.tmp 20), 0, "oil.go:148", #[⟨0, .data⟩], none⟩ (v := ?_) hS0 ?_ ?_
    rotate_left
    · intro X ⟨x0, x1, x2⟩; go_simp; try with_reducible rfl
    simp only [Act.put, List.setIfInBounds_toArray, List.set_cons_zero, List.set_cons_succ, Array.toArray_toList]
    refine tkH 2 ⟨some 22, .fieldAddr 131 (.tmp 21) 5, 0, "oil.go:148", #[⟨1, .data⟩], none⟩ (v := ?_) hS0 ?_ ?_
    rotate_left
    · intro X ⟨x0, x1, x2⟩; go_simp; try with_reducible rfl
    simp only [Act.put, List.setIfInBounds_toArray, List.set_cons_zero, List.set_cons_succ, Array.toArray_toList]
    refine tkH 3 ⟨some 23, .load 127 (.tmp 22), 127, "oil.go:148", #[⟨2, .data⟩], none⟩ (v := ?_) hS0 ?_ ?_
    rotate_left
    · intro X ⟨x0, x1, x2⟩; go_simp; try with_reducible rfl
    simp only [Act.put, List.setIfInBounds_toArray, List.set_cons_zero, List.set_cons_succ, Array.toArray_toList]
    refine tkH 4 ⟨some 24, .load 155 (.tmp 3), 155, "oil.go:148", #[], none⟩ (v := ?_) hS0 ?_ ?_
    rotate_left
    · intro X ⟨x0, x1, x2⟩; go_simp; try with_reducible rfl
    simp only [Act.put, List.setIfInBounds_toArray, List.set_cons_zero, List.set_cons_succ, Array.toArray_toList]
    refine wpAnyH_ready (rs := [5]) (by kernel_rfl) (by simp) (AllReadyH.cons (o := ⟨some 25, .lookup 127 (.tmp 23) (.tmp 24) true, 115, "oil.go:148", #[⟨3, .data⟩, ⟨4, .data⟩], none⟩) rfl (fun K hK => ?_) AllReadyH.nil)
    go_simp
    refine hK.out _ _ (hS0) (fun hS1 => ?_)
    clear hS0 hK K
    refine tkH 6 ⟨some 19, .move (.tmp 25), 115, "oil.go:148", #[⟨5, .data⟩], none⟩ (v := ?_) hS1 ?_ ?_
    rotate_left
    · intro X ⟨x0, x1, x2⟩; go_simp; try with_reducible rfl
    simp only [Act.put, List.setIfInBounds_toArray, List.set_cons_zero, List.set_cons_succ, Array.toArray_toList]
    refine tkH 7 ⟨some 26, .extract (.tmp 19) 0, 3, "oil.go:148", #[⟨6, .data⟩], none⟩ (v := ?_) hS1 ?_ ?_
    rotate_left
    · intro X ⟨x0, x1, x2⟩; go_simp; try with_reducible rfl
    simp only [Act.put, List.setIfInBounds_toArray, List.set_cons_zero, List.set_cons_succ, Array.toArray_toList]
    refine tkH 8 ⟨some 27, .extract (.tmp 19) 1, 4, "oil.go:148", #[⟨6, .data⟩, { on := 9, ground := Ground.gcOnly Departure.lateStores }], none⟩ (v := ?_) hS1 ?_ ?_
    rotate_left
    · intro X ⟨x0, x1, x2⟩; go_simp; try with_reducible rfl
    simp only [Act.put, List.setIfInBounds_toArray, List.set_cons_zero, List.set_cons_succ, Array.toArray_toList]
    refine tkH 9 ⟨some 5, .assign (.tmp 26), 3, "oil.go:148", #[⟨7, .data⟩, ⟨0, .phase⟩, ⟨1, .phase⟩, ⟨2, .phase⟩, ⟨3, .phase⟩, ⟨4, .phase⟩, ⟨5, .phase⟩, ⟨6, .phase⟩, ⟨7, .phase⟩, ⟨8, .textOnly .lateStores⟩], none⟩ (v := ?_) hS1 ?_ ?_
    rotate_left
    · intro X ⟨x0, x1, x2⟩; go_simp; try with_reducible rfl
    simp only [Act.put, List.setIfInBounds_toArray, List.set_cons_zero, List.set_cons_succ, Array.toArray_toList]
    refine tkH 10 ⟨some 6, .assign (.tmp 27), 4, "oil.go:148", #[⟨8, .data⟩, ⟨9, .chain⟩, ⟨0, .phase⟩, ⟨1, .phase⟩, ⟨2, .phase⟩, ⟨3, .phase⟩, ⟨4, .phase⟩, ⟨5, .phase⟩, ⟨6, .phase⟩, ⟨7, .phase⟩, ⟨8, .phase⟩, ⟨9, .phase⟩], none⟩ (v := ?_) hS1 ?_ ?_
    rotate_left
    · intro X ⟨x0, x1, x2⟩; go_simp; try with_reducible rfl
    simp only [Act.put, List.setIfInBounds_toArray, List.set_cons_zero, List.set_cons_succ, Array.toArray_toList]
    refine wpAnyH_done (by kernel_rfl) ?_ _
    clear hS1
    clear hlk
    have hd3 : Below w2.heap.size w2 w2.drew := (Below.refl _ _).drew
    have HE3 := Lib.hid (HE2.out.keep hd3)
    have HM3 := Lib.hid (HM2.out.of_block (w' := w2.drew) rfl)
    have HB3 := Lib.hid (HB2.out.drew)
    have HN3 := Lib.hid (show w2.drew.heap[Bt]? = _ from HN2.out)
    replace t0 := cell_later hd3 t0
    replace t1 := cell_later hd3 t1
    replace x5 := cell_later hd3 x5
    replace x9 := cell_later hd3 x9
    clear hd3 HE2 HM2 HB2 HN2
    generalize w2.drew = w3 at HE3 HM3 HB3 HN3 t0 t1 x5 x9 ⊢
    cases mv with
    | some v =>
      obtain ⟨r', j', hj1, hj2, hv⟩ := HMM.out i o v HMV.out
      have hfin : CPost s J Bk (r + 1) i o W (.returned (.int .i64 v)) w3 := by
        have e1 : j' = i := by omega
        subst e1
        have e2 : r' = r + 1 := by have := HIR.out; omega
        subst e2
        exact ⟨by rw [hv], MK.of_below HB3.out, _, HM3.out, HMM.out⟩
      have HFIN := Lib.hid hfin
      clear hfin hj1 hj2 hv
      go_wp2_with fail
      go_ret
      exact HFIN.out
    | none =>
      go_wp2_with fail
      refine wp_region_held_drew (S := fun X => X.cell? ⟨Bw, 5, none⟩ = some (.func (.func 78) #[] #[]) ∧ X.cell? ⟨Bt, 0, none⟩ = some (.int .i64 (i : Int))) (by kernel_rfl) (⟨x5, t0⟩) (fun hS0 => ?_)
      refine tkH 0 ⟨some 30, .move (.tmp 0), 126, "oil.go:153", #[], none⟩ (v := ?_) hS0 ?_ ?_
      rotate_left
      · intro X ⟨x0, x1⟩; go_simp; try with_reducible rfl
      simp only [Act.put, List.setIfInBounds_toArray, List.set_cons_zero, List.set_cons_succ, Array.toArray_toList]
      refine tkH 1 ⟨some 31, .nilCheck (.tmp 30), 0, "oil.go:153", #[⟨0, .data⟩], none⟩ (v := ?_) hS0 ?_ ?_
      rotate_left
      · intro X ⟨x0, x1⟩; go_simp; try with_reducible rfl
      simp only [Act.put, List.setIfInBounds_toArray, List.set_cons_zero, List.set_cons_succ, Array.toArray_toList]
      refine tkH 2 ⟨some 32, .fieldAddr 131 (.tmp 31) 1, 0, "oil.go:153", #[⟨1, .data⟩], none⟩ (v := ?_) hS0 ?_ ?_
      rotate_left
      · intro X ⟨x0, x1⟩; go_simp; try with_reducible rfl
      simp only [Act.put, List.setIfInBounds_toArray, List.set_cons_zero, List.set_cons_succ, Array.toArray_toList]
      refine tkH 3 ⟨some 33, .load 128 (.tmp 32), 128, "oil.go:153", #[⟨2, .data⟩], none⟩ (v := ?_) hS0 ?_ ?_
      rotate_left
      · intro X ⟨x0, x1⟩; go_simp; try with_reducible rfl
      simp only [Act.put, List.setIfInBounds_toArray, List.set_cons_zero, List.set_cons_succ, Array.toArray_toList]
      refine tkH 4 ⟨some 34, .fieldAddr 155 (.tmp 3) 0, 0, "oil.go:153", #[], none⟩ (v := ?_) hS0 ?_ ?_
      rotate_left
      · intro X ⟨x0, x1⟩; go_simp; try with_reducible rfl
      simp only [Act.put, List.setIfInBounds_toArray, List.set_cons_zero, List.set_cons_succ, Array.toArray_toList]
      refine tkH 5 ⟨some 35, .load 3 (.tmp 34), 3, "oil.go:153", #[⟨4, .data⟩], none⟩ (v := ?_) hS0 ?_ ?_
      rotate_left
      · intro X ⟨x0, x1⟩; go_simp; try with_reducible rfl
      simp only [Act.put, List.setIfInBounds_toArray, List.set_cons_zero, List.set_cons_succ, Array.toArray_toList]
      refine wpAnyH_ready (rs := [6]) (by kernel_rfl) (by simp) (AllReadyH.cons (o := ⟨some 36, .call ⟨.value (.tmp 33), #[.tmp 35], #[3]⟩, 3, "oil.go:153", #[⟨3, .data⟩, ⟨5, .data⟩], none⟩) rfl (fun K hK => ?_) AllReadyH.nil)
      go_simp
      with_reducible refine (HF.out.lo _ HE3.out.drew.old i hi).mono ?_
      rintro e w4 ⟨rfl, hb4⟩
      have hb4' : Below w3.heap.size w3 w4 := (Below.refl _ w3).drew.trans hb4
      go_wp2_with fail
      refine hK.out _ _ (⟨cell_later hb4' x5, cell_later hb4' t0⟩) (fun hS1 => ?_)
      clear hS0 hK K
      refine tkH 7 ⟨some 7, .assign (.tmp 36), 3, "oil.go:153", #[⟨6, .data⟩, ⟨6, .chain⟩, ⟨0, .phase⟩, ⟨1, .phase⟩, ⟨2, .phase⟩, ⟨3, .phase⟩, ⟨4, .phase⟩, ⟨5, .phase⟩, ⟨6, .phase⟩], none⟩ (v := ?_) hS1 ?_ ?_
      rotate_left
      · intro X ⟨x0, x1⟩; go_simp; try with_reducible rfl
      simp only [Act.put, List.setIfInBounds_toArray, List.set_cons_zero, List.set_cons_succ, Array.toArray_toList]
      refine wpAnyH_done (by kernel_rfl) ?_ _
      clear hS1
      have HE4 := Lib.hid (HE3.out.keep hb4')
      have HM4 := Lib.hid (HM3.out.of_block (hb4'.block _ HM3.out.lt))
      have HB4 := Lib.hid (HB3.out.trans (hb4'.mono HB3.out.size))
      have HN4 := Lib.hid ((hb4'.block _ (Array.getElem?_eq_some_iff.1 HN3.out).1).trans HN3.out)
      have lW4 := HB4.out.size
      have lBt := (Array.getElem?_eq_some_iff.1 HN4.out).1
      clear hb4 hb4' x5 x9 t0 t1 HE3 HM3 HB3 HN3
      go_wp2_with fail
      go_loopw [5, 7] (CRel s J Bk r i o w4) (fun _ v _ => (J.hi i + 1 - intOf v).toNat)
      case atStart => exact ⟨0, Nat.zero_le _, by simp, rfl, MK.refl _ _, m, HM4.out, HMM.out⟩
      case round =>
        obtain ⟨q, hq, rfl, rfl, hmk, m', hM', hm'⟩ := hrel
        have HMK := Lib.hid hmk
        have HM5 := Lib.hid hM'
        have HMM5 := Lib.hid hm'
        have HE5 := Lib.hid (HE4.out.move hmk)
        have HN5 := Lib.hid ((hmk.block Bt lBt ntk).trans HN4.out)
        have hs5 := hmk.size
        clear hmk hM' hm'
        obtain ⟨y0, y1, y2, y3, y4, y5, y6, y7, y8, y9⟩ := HE5.out.cells
        have u0 : wr.cell? ⟨Bt, 0, none⟩ = some (.int .i64 (i : Int)) := by simp [World.cell?, HN5.out]
        have u1 : wr.cell? ⟨Bt, 1, none⟩ = some (.int .i64 o) := by simp [World.cell?, HN5.out]
        have hbb := bestTo_bd (s := s) HJO.out r i o (by omega) q hq
        obtain ⟨nn, hnn⟩ : ∃ nn, J.lo i + (q : Int) = nn := ⟨_, rfl⟩
        obtain ⟨bb, hb⟩ : ∃ bb, bestTo (chpG s J r i o) q = bb := ⟨_, rfl⟩
        rw [hb] at hbb
        rw [hnn, hb]
        have HNN := Lib.hid hnn
        have HBB := Lib.hid hb
        have hnr : 0 ≤ nn ∧ nn ≤ 11 := by unfold numN at hq; omega
        obtain ⟨hh, hhh⟩ : ∃ hh, J.hi i = hh := ⟨_, rfl⟩
        have HHH := Lib.hid hhh
        have hhb : hh ≤ 10 := by omega
        have hcon := HF.out.hi _ HE5.out.drew.old i hi
        rw [hhh] at hcon
        have HCON := Lib.hid hcon
        clear y0 y1 y2 y3 y4 y5 y8 hb hnn hcon hhh
        by_cases hlt : q < numN J i
        · have hle : decide (nn ≤ hh) = true := decide_eq_true (by have h1 := HNN.out; have h2 := HHH.out; unfold numN at hlt; omega)
          have hnlo : J.lo i ≤ nn := by have h1 := HNN.out; omega
          have hnhi : nn ≤ J.hi i := by have h1 := HNN.out; unfold numN at hlt; omega
          have HLO := Lib.hid hnlo
          have HHI := Lib.hid hnhi
          clear hnlo hnhi
          go_wp2_with fail
          refine wp_region_held_drew (S := fun X => X.cell? ⟨Bw, 6, none⟩ = some (.func (.func 79) #[] #[]) ∧ X.cell? ⟨Bt, 0, none⟩ = some (.int .i64 (i : Int))) (by kernel_rfl) (⟨y6, u0⟩) (fun hS0 => ?_)
          refine tkH 0 ⟨some 37, .move (.tmp 7), 3, "oil.go:153", #[], none⟩ (v := ?_) hS0 ?_ ?_
          rotate_left
          · intro X ⟨x0, x1⟩; go_simp; try with_reducible rfl
          simp only [Act.put, List.setIfInBounds_toArray, List.set_cons_zero, List.set_cons_succ, Array.toArray_toList]
          refine tkH 1 ⟨some 38, .move (.tmp 0), 126, "oil.go:153", #[], none⟩ (v := ?_) hS0 ?_ ?_
          rotate_left
          · intro X ⟨x0, x1⟩; go_simp; try with_reducible rfl
          simp only [Act.put, List.setIfInBounds_toArray, List.set_cons_zero, List.set_cons_succ, Array.toArray_toList]
          refine tkH 2 ⟨some 39, .nilCheck (.tmp 38), 0, "oil.go:153", #[⟨1, .data⟩], none⟩ (v := ?_) hS0 ?_ ?_
          rotate_left
          · intro X ⟨x0, x1⟩; go_simp; try with_reducible rfl
          simp only [Act.put, List.setIfInBounds_toArray, List.set_cons_zero, List.set_cons_succ, Array.toArray_toList]
          refine tkH 3 ⟨some 40, .fieldAddr 131 (.tmp 39) 2, 0, "oil.go:153", #[⟨2, .data⟩], none⟩ (v := ?_) hS0 ?_ ?_
          rotate_left
          · intro X ⟨x0, x1⟩; go_simp; try with_reducible rfl
          simp only [Act.put, List.setIfInBounds_toArray, List.set_cons_zero, List.set_cons_succ, Array.toArray_toList]
          refine tkH 4 ⟨some 41, .load 128 (.tmp 40), 128, "oil.go:153", #[⟨3, .data⟩], none⟩ (v := ?_) hS0 ?_ ?_
          rotate_left
          · intro X ⟨x0, x1⟩; go_simp; try with_reducible rfl
          simp only [Act.put, List.setIfInBounds_toArray, List.set_cons_zero, List.set_cons_succ, Array.toArray_toList]
          refine tkH 5 ⟨some 42, .fieldAddr 155 (.tmp 3) 0, 0, "oil.go:153", #[], none⟩ (v := ?_) hS0 ?_ ?_
          rotate_left
          · intro X ⟨x0, x1⟩; go_simp; try with_reducible rfl
          simp only [Act.put, List.setIfInBounds_toArray, List.set_cons_zero, List.set_cons_succ, Array.toArray_toList]
          refine tkH 6 ⟨some 43, .load 3 (.tmp 42), 3, "oil.go:153", #[⟨5, .data⟩], none⟩ (v := ?_) hS0 ?_ ?_
          rotate_left
          · intro X ⟨x0, x1⟩; go_simp; try with_reducible rfl
          simp only [Act.put, List.setIfInBounds_toArray, List.set_cons_zero, List.set_cons_succ, Array.toArray_toList]
          refine wpAnyH_ready (rs := [7]) (by kernel_rfl) (by simp) (AllReadyH.cons (o := ⟨some 44, .call ⟨.value (.tmp 41), #[.tmp 43], #[3]⟩, 3, "oil.go:153", #[⟨4, .data⟩, ⟨6, .data⟩], none⟩) rfl (fun K hK => ?_) AllReadyH.nil)
          go_simp
          with_reducible refine HCON.out.mono ?_
          rintro e w6 ⟨rfl, hb6⟩
          have hb6' : Below wr.heap.size wr w6 := (Below.refl _ wr).drew.trans hb6
          go_wp2_with fail
          refine hK.out _ _ (⟨cell_later hb6' y6, cell_later hb6' u0⟩) (fun hS1 => ?_)
          clear hS0 hK K
          refine tkH 8 ⟨some 45, .binOp .leq 3 (.tmp 37) (.tmp 44) 3, 4, "oil.go:153", #[⟨0, .data⟩, ⟨7, .data⟩], none⟩ (v := ?_) hS1 ?_ ?_
          rotate_left
          · intro X ⟨x0, x1⟩; go_simp; try with_reducible rfl
          simp only [Act.put, List.setIfInBounds_toArray, List.set_cons_zero, List.set_cons_succ, Array.toArray_toList]
          refine wpAnyH_done (by kernel_rfl) ?_ _
          clear hS1
          have HE6 := Lib.hid (HE5.out.keep hb6')
          have HM6 := Lib.hid (HM5.out.of_block (hb6'.block _ HM5.out.lt))
          have HK6 := Lib.hid (HMK.out.trans (MK.of_below hb6'))
          have HN6 := Lib.hid ((hb6'.block _ (Array.getElem?_eq_some_iff.1 HN5.out).1).trans HN5.out)
          replace u0 := cell_later hb6' u0
          replace u1 := cell_later hb6' u1
          replace y6 := cell_later hb6' y6
          replace y7 := cell_later hb6' y7
          replace y9 := cell_later hb6' y9
          have ls6 := hb6'.size
          clear hb6 hb6' HE5 HM5 HMK HN5 HCON
          go_wp2_with fail
          with_reducible refine (stepD_any w0 Bw Bk s J A cp Bs Bl HOK.out HJ.out HF.out i o nn w6 hi ho ⟨HLO.out, HHI.out⟩ HE6.out).mono ?_
          rintro e w7 ⟨rfl, hb7⟩
          obtain ⟨no, hno⟩ : ∃ no, nextO s J i nn o = no := ⟨_, rfl⟩
          obtain ⟨nb, hnb⟩ : ∃ nb, nextB s J i nn o = nb := ⟨_, rfl⟩
          have hnob := nextO_bd HOK.out HJ.out hi ⟨HLO.out, HHI.out⟩ ho.1
          rw [hno] at hnob
          rw [hno, hnb]
          have hsuc : bestTo (chpG s J r i o) (q + 1) = if nb then min bb (J.cost i nn + chp s J r (i + 1) no) else bb := by
            simp only [bestTo, chpG]
            rw [HNN.out, HBB.out, hno, hnb]
            cases nb <;> rfl
          have HSUC := Lib.hid hsuc
          clear hsuc hnb hno
          have HE7 := Lib.hid (HE6.out.keep hb7)
          have HM7 := Lib.hid (HM6.out.of_block (hb7.block _ HM6.out.lt))
          have HK7 := Lib.hid (HK6.out.trans (MK.of_below hb7))
          have HN7 := Lib.hid ((hb7.block _ (Array.getElem?_eq_some_iff.1 HN6.out).1).trans HN6.out)
          have v0 := cell_later hb7 u0
          have v7 := cell_later hb7 y7
          have lk7 := HM7.out.lt
          clear hb7 u0 u1 y6 y7 y9 HE6 HM6 HK6 HN6
          cases nb with
          | false =>
            have hbx : Below w7.heap.size w7 (w7.alloc (.cells #[.int .i64 ((i : Int) + 1), .int .i64 no] 155)) := (Below.refl _ _).alloc (Nat.le_refl _) _
            have HM8 := Lib.hid (HM7.out.of_block (hbx.block _ lk7))
            have HK8 := Lib.hid (HK7.out.trans (MK.of_below hbx))
            have hs2 : bestTo (chpG s J r i o) (q + 1) = bb := by rw [HSUC.out]; rfl
            have HS2 := Lib.hid hs2
            clear hs2 hbx v0 v7
            go_wp2_with fail
            go_roundw
            case rel => exact ⟨q + 1, by omega, by rw [← HNN.out]; push_cast; congr 1; omega, by rw [HS2.out], HK8.out, _, HM8.out, HMM5.out⟩
            case measure => have h1 := HNN.out; have h2 := HHH.out; simp [intOf]; unfold numN at hlt; omega
          | true =>
            have hbx : Below w7.heap.size w7 (w7.alloc (.cells #[.int .i64 ((i : Int) + 1), .int .i64 no] 155)) := (Below.refl _ _).alloc (Nat.le_refl _) _
            have HM8 := Lib.hid (HM7.out.of_block (hbx.block _ lk7))
            have HK8 := Lib.hid (HK7.out.trans (MK.of_below hbx))
            have HE8 := Lib.hid (HE7.out.keep hbx)
            have hnx := Go.heap_alloc_new w7 (.cells #[.int .i64 ((i : Int) + 1), .int .i64 no] 155)
            replace v0 := cell_later hbx v0
            replace v7 := cell_later hbx v7
            obtain ⟨C, hC⟩ : ∃ C, J.cost i nn = C := ⟨_, rfl⟩
            obtain ⟨D, hD⟩ : ∃ D, chp s J r (i + 1) no = D := ⟨_, rfl⟩
            have hCb := HJO.out i nn HLO.out HHI.out
            have hDb := chp_bd (s := s) HJO.out r (i + 1) no (by omega)
            rw [hC] at hCb
            rw [hD] at hDb
            have hs2 : bestTo (chpG s J r i o) (q + 1) = min bb (C + D) := by rw [HSUC.out, hC, hD]; rfl
            have HS2 := Lib.hid hs2
            have hIH : ∀ X, WkEnvD w0 Bw Bk s A cp Bs Bl X → SpotMap X Bk m' → Calls Try.prog 107 #[.pointer (some ⟨Bw, 0, none⟩), .agg #[.int .i64 ((i : Int) + 1), .int .i64 no]] X (fun e W' => e = .returned (.int .i64 D) ∧ MK Bk X W' ∧ ∃ m, SpotMap W' Bk m ∧ Memo s J m) := by
              intro X hX1 hX2
              have h := IH.out (i + 1) no X m' (by have := HIR.out; omega) hnob hX1 hX2 HMM5.out
              rw [show (((i + 1 : Nat)) : Int) = (i : Int) + 1 by omega] at h
              unfold CPost at h
              rw [hD] at h
              exact h
            have HIH := Lib.hid hIH
            have HC := Lib.hid hC
            have hwr : IntKind.i64.wrap (C + D) = C + D := IntWalk.i64_in _ (by omega)
            have nxk : w7.heap.size ≠ Bk := by omega
            clear hs2 hbx hC hD hIH
            go_wp2_with fail
            generalize hw8 : w7.alloc (.cells #[.int .i64 ((i : Int) + 1), .int .i64 no] 155) = w8 at HM8 HK8 HE8 hnx v0 v7 ⊢
            clear hw8
            obtain ⟨Bx, hBx⟩ : ∃ Bx, w7.heap.size = Bx := ⟨_, rfl⟩
            rw [hBx] at hnx nxk ⊢
            have a0 : w8.cell? ⟨Bx, 0, none⟩ = some (.int .i64 ((i : Int) + 1)) := by simp [World.cell?, hnx]
            have a1 : w8.cell? ⟨Bx, 1, none⟩ = some (.int .i64 no) := by simp [World.cell?, hnx]
            clear hBx hnx
            refine wp_region_held_drew (S := fun X => X.cell? ⟨Bw, 7, none⟩ = some (.func (.func 80) #[] #[]) ∧ X.cell? ⟨Bt, 0, none⟩ = some (.int .i64 (i : Int)) ∧ X.cell? ⟨Bx, 0, none⟩ = some (.int .i64 ((i : Int) + 1)) ∧ X.cell? ⟨Bx, 1, none⟩ = some (.int .i64 no)) (by kernel_rfl) (⟨v7, v0, a0, a1⟩) (fun hS0 => ?_)
            refine tkH 0 ⟨some 56, .move (.tmp 5), 3, "oil.go:155", #[], none⟩ (v := ?_) hS0 ?_ ?_
            rotate_left
            · intro X ⟨x0, x1, x2, x3⟩; go_simp; try with_reducible rfl
            simp only [Act.put, List.setIfInBounds_toArray, List.set_cons_zero, List.set_cons_succ, Array.toArray_toList]
            refine tkH 1 ⟨some 57, .move (.tmp 0), 126, "oil.go:155", #[], none⟩ (v := ?_) hS0 ?_ ?_
            rotate_left
            · intro X ⟨x0, x1, x2, x3⟩; go_simp; try with_reducible rfl
            simp only [Act.put, List.setIfInBounds_toArray, List.set_cons_zero, List.set_cons_succ, Array.toArray_toList]
            refine tkH 2 ⟨some 58, .nilCheck (.tmp 57), 0, "oil.go:155", #[⟨1, .data⟩], none⟩ (v := ?_) hS0 ?_ ?_
            rotate_left
            · intro X ⟨x0, x1, x2, x3⟩; go_simp; try with_reducible rfl
            simp only [Act.put, List.setIfInBounds_toArray, List.set_cons_zero, List.set_cons_succ, Array.toArray_toList]
            refine tkH 3 ⟨some 59, .fieldAddr 131 (.tmp 58) 3, 0, "oil.go:155", #[⟨2, .data⟩], none⟩ (v := ?_) hS0 ?_ ?_
            rotate_left
            · intro X ⟨x0, x1, x2, x3⟩; go_simp; try with_reducible rfl
            simp only [Act.put, List.setIfInBounds_toArray, List.set_cons_zero, List.set_cons_succ, Array.toArray_toList]
            refine tkH 4 ⟨some 60, .load 129 (.tmp 59), 129, "oil.go:155", #[⟨3, .data⟩], none⟩ (v := ?_) hS0 ?_ ?_
            rotate_left
            · intro X ⟨x0, x1, x2, x3⟩; go_simp; try with_reducible rfl
            simp only [Act.put, List.setIfInBounds_toArray, List.set_cons_zero, List.set_cons_succ, Array.toArray_toList]
            refine tkH 5 ⟨some 61, .fieldAddr 155 (.tmp 3) 0, 0, "oil.go:155", #[], none⟩ (v := ?_) hS0 ?_ ?_
            rotate_left
            · intro X ⟨x0, x1, x2, x3⟩; go_simp; try with_reducible rfl
            simp only [Act.put, List.setIfInBounds_toArray, List.set_cons_zero, List.set_cons_succ, Array.toArray_toList]
            refine tkH 6 ⟨some 62, .load 3 (.tmp 61), 3, "oil.go:155", #[⟨5, .data⟩], none⟩ (v := ?_) hS0 ?_ ?_
            rotate_left
            · intro X ⟨x0, x1, x2, x3⟩; go_simp; try with_reducible rfl
            simp only [Act.put, List.setIfInBounds_toArray, List.set_cons_zero, List.set_cons_succ, Array.toArray_toList]
            refine tkH 7 ⟨some 63, .move (.tmp 7), 3, "oil.go:155", #[], none⟩ (v := ?_) hS0 ?_ ?_
            rotate_left
            · intro X ⟨x0, x1, x2, x3⟩; go_simp; try with_reducible rfl
            simp only [Act.put, List.setIfInBounds_toArray, List.set_cons_zero, List.set_cons_succ, Array.toArray_toList]
            refine tkH 9 ⟨some 65, .move (.tmp 0), 126, "oil.go:155", #[], none⟩ (v := ?_) hS0 ?_ ?_
            rotate_left
            · intro X ⟨x0, x1, x2, x3⟩; go_simp; try with_reducible rfl
            simp only [Act.put, List.setIfInBounds_toArray, List.set_cons_zero, List.set_cons_succ, Array.toArray_toList]
            refine tkH 10 ⟨some 66, .load 155 (.tmp 8), 155, "oil.go:155", #[], none⟩ (v := ?_) hS0 ?_ ?_
            rotate_left
            · intro X ⟨x0, x1, x2, x3⟩; go_simp; try with_reducible rfl
            simp only [Act.put, List.setIfInBounds_toArray, List.set_cons_zero, List.set_cons_succ, Array.toArray_toList]
            refine wpAnyH_ready (rs := [8]) (by kernel_rfl) (by simp) (AllReadyH.cons (o := ⟨some 64, .call ⟨.value (.tmp 60), #[.tmp 62, .tmp 63], #[3, 3]⟩, 3, "oil.go:155", #[⟨4, .data⟩, ⟨6, .data⟩, ⟨7, .data⟩], none⟩) rfl (fun K hK => ?_) AllReadyH.nil)
            go_simp
            have hco := HF.out.cost _ HE8.out.drew.old i nn hi HLO.out HHI.out
            rw [HC.out] at hco
            with_reducible refine hco.mono ?_
            clear hco
            rintro e w9 ⟨rfl, hb9⟩
            have hb9' : Below w8.heap.size w8 w9 := (Below.refl _ w8).drew.trans hb9
            have HE9 := Lib.hid (HE8.out.keep hb9')
            have HM9 := Lib.hid (HM8.out.of_block (hb9'.block _ HM8.out.lt))
            have HK9 := Lib.hid (HK8.out.trans (MK.of_below hb9'))
            have c0 := cell_later hb9' v7
            have c1 := cell_later hb9' v0
            have c2 := cell_later hb9' a0
            have c3 := cell_later hb9' a1
            clear hb9 hb9' v7 v0 a0 a1
            go_wp2_with fail
            refine hK.out _ _ (⟨c0, c1, c2, c3⟩) (fun hS1 => ?_)
            clear hS0 hK K
            refine wpAnyH_ready (rs := [11]) (by kernel_rfl) (by simp) (AllReadyH.cons (o := ⟨some 67, .call ⟨.value (.func 107), #[.tmp 65, .tmp 66], #[126, 155]⟩, 3, "oil.go:155", #[⟨9, .data⟩, ⟨10, .data⟩, ⟨8, .chain⟩], none⟩) rfl (fun K hK => ?_) AllReadyH.nil)
            go_simp
            with_reducible refine (HIH.out w9 HE9.out HM9.out).mono ?_
            rintro e w10 ⟨rfl, hk10, m2, hM10, hm10⟩
            have HM10 := Lib.hid hM10
            have HMM10 := Lib.hid hm10
            have HK10 := Lib.hid (HK9.out.trans hk10)
            have d0 := hk10.cell c0 nwk
            have d1 := hk10.cell c1 ntk
            have d2 := hk10.cell c2 nxk
            have d3 := hk10.cell c3 nxk
            clear hM10 hm10 hk10 c0 c1 c2 c3
            go_wp2_with fail
            refine hK.out _ _ (⟨d0, d1, d2, d3⟩) (fun hS2 => ?_)
            clear hS1 hK K
            refine tkH 12 ⟨some 68, .binOp .add 3 (.tmp 64) (.tmp 67) 3, 3, "oil.go:155", #[⟨8, .data⟩, ⟨11, .data⟩], none⟩ (v := ?_) hS2 ?_ ?_
            rotate_left
            · intro X ⟨x0, x1, x2, x3⟩; go_simp; try with_reducible rfl
            simp only [Act.put, List.setIfInBounds_toArray, List.set_cons_zero, List.set_cons_succ, Array.toArray_toList]
            clear hwr
            refine wpAnyH_ready (rs := [13]) (by kernel_rfl) (by simp) (AllReadyH.cons (o := ⟨some 69, .buildSlice 27 2 #[(0, .tmp 56), (1, .tmp 68)], 27, "oil.go:155", #[⟨0, .data⟩, ⟨12, .data⟩], none⟩) rfl (fun K hK => ?_) AllReadyH.nil)
            go_simp
            have hbz : Below w10.heap.size w10 (w10.alloc (.cells #[.int .i64 bb, .int .i64 (C + D)] 3)) := (Below.refl _ _).alloc (Nat.le_refl _) _
            refine hK.out _ _ (⟨cell_later hbz d0, cell_later hbz d1, cell_later hbz d2, cell_later hbz d3⟩) (fun hS3 => ?_)
            clear hS2 hK K
            refine wpAnyH_ready (rs := [14]) (by kernel_rfl) (by simp) (AllReadyH.cons (o := ⟨some 70, .call ⟨.value (.func 98), #[.tmp 69], #[27]⟩, 3, "oil.go:155", #[⟨13, .data⟩, ⟨11, .chain⟩], none⟩) rfl (fun K hK => ?_) AllReadyH.nil)
            go_simp
            with_reducible refine (minimum_two w10.heap.size bb (C + D) _ (by simp) (by simp)).mono ?_
            rintro e w' ⟨rfl, rfl⟩
            go_wp2_with fail
            refine hK.out _ _ (⟨cell_later hbz d0, cell_later hbz d1, cell_later hbz d2, cell_later hbz d3⟩) (fun hS4 => ?_)
            clear hS3 hK K
            refine tkH 15 ⟨some 5, .assign (.tmp 70), 3, "oil.go:155", #[⟨14, .data⟩, ⟨14, .chain⟩, ⟨0, .phase⟩, ⟨1, .phase⟩, ⟨2, .phase⟩, ⟨3, .phase⟩, ⟨4, .phase⟩, ⟨5, .phase⟩, ⟨6, .phase⟩, ⟨7, .phase⟩, ⟨8, .phase⟩, ⟨9, .phase⟩, ⟨10, .phase⟩, ⟨11, .phase⟩, ⟨12, .phase⟩, ⟨13, .phase⟩, ⟨14, .phase⟩], none⟩ (v := ?_) hS4 ?_ ?_
            rotate_left
            · intro X ⟨x0, x1, x2, x3⟩; go_simp; try with_reducible rfl
            simp only [Act.put, List.setIfInBounds_toArray, List.set_cons_zero, List.set_cons_succ, Array.toArray_toList]
            refine wpAnyH_done (by kernel_rfl) ?_ _
            clear hS4
            have HM11 := Lib.hid (HM10.out.of_block (hbz.block _ HM10.out.lt))
            have HK11 := Lib.hid (HK10.out.trans (MK.of_below hbz))
            clear hbz d0 d1 d2 d3
            go_wp2_with fail
            go_roundw
            case rel => exact ⟨q + 1, by omega, by rw [← HNN.out]; push_cast; congr 1; omega, by rw [HS2.out], HK11.out, _, HM11.out, HMM10.out⟩
            case measure => have h1 := HNN.out; have h2 := HHH.out; simp [intOf]; unfold numN at hlt; omega
        · have hle : decide (nn ≤ hh) = false := decide_eq_false (by have h1 := HNN.out; have h2 := HHH.out; unfold numN at hlt; omega)
          have hqq : q = numN J i := by omega
          have hbest : chp s J (r + 1) i o = bb := by rw [chp_succ, ← hqq, HBB.out]
          have HBEST := Lib.hid hbest
          clear hbest hqq
          go_wp2_with fail
          refine wp_region_held_drew (S := fun X => X.cell? ⟨Bw, 6, none⟩ = some (.func (.func 79) #[] #[]) ∧ X.cell? ⟨Bt, 0, none⟩ = some (.int .i64 (i : Int))) (by kernel_rfl) (⟨y6, u0⟩) (fun hS0 => ?_)
          refine tkH 0 ⟨some 37, .move (.tmp 7), 3, "oil.go:153", #[], none⟩ (v := ?_) hS0 ?_ ?_
          rotate_left
          · intro X ⟨x0, x1⟩; go_simp; try with_reducible rfl
          simp only [Act.put, List.setIfInBounds_toArray, List.set_cons_zero, List.set_cons_succ, Array.toArray_toList]
          refine tkH 1 ⟨some 38, .move (.tmp 0), 126, "oil.go:153", #[], none⟩ (v := ?_) hS0 ?_ ?_
          rotate_left
          · intro X ⟨x0, x1⟩; go_simp; try with_reducible rfl
          simp only [Act.put, List.setIfInBounds_toArray, List.set_cons_zero, List.set_cons_succ, Array.toArray_toList]
          refine tkH 2 ⟨some 39, .nilCheck (.tmp 38), 0, "oil.go:153", #[⟨1, .data⟩], none⟩ (v := ?_) hS0 ?_ ?_
          rotate_left
          · intro X ⟨x0, x1⟩; go_simp; try with_reducible rfl
          simp only [Act.put, List.setIfInBounds_toArray, List.set_cons_zero, List.set_cons_succ, Array.toArray_toList]
          refine tkH 3 ⟨some 40, .fieldAddr 131 (.tmp 39) 2, 0, "oil.go:153", #[⟨2, .data⟩], none⟩ (v := ?_) hS0 ?_ ?_
          rotate_left
          · intro X ⟨x0, x1⟩; go_simp; try with_reducible rfl
          simp only [Act.put, List.setIfInBounds_toArray, List.set_cons_zero, List.set_cons_succ, Array.toArray_toList]
          refine tkH 4 ⟨some 41, .load 128 (.tmp 40), 128, "oil.go:153", #[⟨3, .data⟩], none⟩ (v := ?_) hS0 ?_ ?_
          rotate_left
          · intro X ⟨x0, x1⟩; go_simp; try with_reducible rfl
          simp only [Act.put, List.setIfInBounds_toArray, List.set_cons_zero, List.set_cons_succ, Array.toArray_toList]
          refine tkH 5 ⟨some 42, .fieldAddr 155 (.tmp 3) 0, 0, "oil.go:153", #[], none⟩ (v := ?_) hS0 ?_ ?_
          rotate_left
          · intro X ⟨x0, x1⟩; go_simp; try with_reducible rfl
          simp only [Act.put, List.setIfInBounds_toArray, List.set_cons_zero, List.set_cons_succ, Array.toArray_toList]
          refine tkH 6 ⟨some 43, .load 3 (.tmp 42), 3, "oil.go:153", #[⟨5, .data⟩], none⟩ (v := ?_) hS0 ?_ ?_
          rotate_left
          · intro X ⟨x0, x1⟩; go_simp; try with_reducible rfl
          simp only [Act.put, List.setIfInBounds_toArray, List.set_cons_zero, List.set_cons_succ, Array.toArray_toList]
          refine wpAnyH_ready (rs := [7]) (by kernel_rfl) (by simp) (AllReadyH.cons (o := ⟨some 44, .call ⟨.value (.tmp 41), #[.tmp 43], #[3]⟩, 3, "oil.go:153", #[⟨4, .data⟩, ⟨6, .data⟩], none⟩) rfl (fun K hK => ?_) AllReadyH.nil)
          go_simp
          with_reducible refine HCON.out.mono ?_
          rintro e w6 ⟨rfl, hb6⟩
          have hb6' : Below wr.heap.size wr w6 := (Below.refl _ wr).drew.trans hb6
          go_wp2_with fail
          refine hK.out _ _ (⟨cell_later hb6' y6, cell_later hb6' u0⟩) (fun hS1 => ?_)
          clear hS0 hK K
          refine tkH 8 ⟨some 45, .binOp .leq 3 (.tmp 37) (.tmp 44) 3, 4, "oil.go:153", #[⟨0, .data⟩, ⟨7, .data⟩], none⟩ (v := ?_) hS1 ?_ ?_
          rotate_left
          · intro X ⟨x0, x1⟩; go_simp; try with_reducible rfl
          simp only [Act.put, List.setIfInBounds_toArray, List.set_cons_zero, List.set_cons_succ, Array.toArray_toList]
          refine wpAnyH_done (by kernel_rfl) ?_ _
          clear hS1
          have HE6 := Lib.hid (HE5.out.keep hb6')
          have HM6 := Lib.hid (HM5.out.of_block (hb6'.block _ HM5.out.lt))
          have HK6 := Lib.hid (HMK.out.trans (MK.of_below hb6'))
          have HN6 := Lib.hid ((hb6'.block _ (Array.getElem?_eq_some_iff.1 HN5.out).1).trans HN5.out)
          replace u0 := cell_later hb6' u0
          replace u1 := cell_later hb6' u1
          replace y6 := cell_later hb6' y6
          replace y7 := cell_later hb6' y7
          replace y9 := cell_later hb6' y9
          have ls6 := hb6'.size
          clear hb6 hb6' HE5 HM5 HMK HN5 HCON
          go_wp2_with fail
          obtain ⟨w7, hrun, hM7, honly⟩ := (HM6.out.of_block (w' := w6.drew) rfl).run_mapUpdate HKEY.out bb
          unfold spotV at hrun
          have hmk7 : MK Bk w6 w7 := (MK.of_below ((Below.refl _ w6).drew)).trans honly.mk'
          have HM7 := Lib.hid hM7
          have HK7 := Lib.hid ((MK.of_below HB4.out).trans (HK6.out.trans hmk7))
          have hmm : Memo s J (updS m' i o bb) := by rw [← HBEST.out]; exact HMM5.out.upd HIR.out o
          have hfin : CPost s J Bk (r + 1) i o W (.returned (.int .i64 bb)) w7 := ⟨by rw [HBEST.out], HK7.out, _, HM7.out, hmm⟩
          have HFIN := Lib.hid hfin
          have f0 := hmk7.cell y9 nwk
          have f1 := hmk7.cell u0 ntk
          have f2 := hmk7.cell u1 ntk
          clear hM7 honly hmk7 hmm hfin y6 y7
          refine wp_region_held_drew (S := fun X => X.cell? ⟨Bw, 9, none⟩ = some (.map (some Bk)) ∧ X.cell? ⟨Bt, 0, none⟩ = some (.int .i64 (i : Int)) ∧ X.cell? ⟨Bt, 1, none⟩ = some (.int .i64 o)) (by kernel_rfl) (⟨y9, u0, u1⟩) (fun hS0 => ?_)
          refine tkH 0 ⟨some 71, .move (.tmp 0), 126, "oil.go:158", #[], none⟩ (v := ?_) hS0 ?_ ?_
          rotate_left
          · intro X ⟨x0, x1, x2⟩; go_simp; try with_reducible rfl
          simp only [Act.put, List.setIfInBounds_toArray, List.set_cons_zero, List.set_cons_succ, Array.toArray_toList]
          refine tkH 1 ⟨some 72, .nilCheck (.tmp 71), 0, "oil.go:158", #[⟨0, .data⟩], none⟩ (v := ?_) hS0 ?_ ?_
          rotate_left
          · intro X ⟨x0, x1, x2⟩; go_simp; try with_reducible rfl
          simp only [Act.put, List.setIfInBounds_toArray, List.set_cons_zero, List.set_cons_succ, Array.toArray_toList]
          refine tkH 2 ⟨some 73, .fieldAddr 131 (.tmp 72) 5, 0, "oil.go:158", #[⟨1, .data⟩], none⟩ (v := ?_) hS0 ?_ ?_
          rotate_left
          · intro X ⟨x0, x1, x2⟩; go_simp; try with_reducible rfl
          simp only [Act.put, List.setIfInBounds_toArray, List.set_cons_zero, List.set_cons_succ, Array.toArray_toList]
          refine tkH 3 ⟨some 74, .load 127 (.tmp 73), 127, "oil.go:158", #[⟨2, .data⟩], none⟩ (v := ?_) hS0 ?_ ?_
          rotate_left
          · intro X ⟨x0, x1, x2⟩; go_simp; try with_reducible rfl
          simp only [Act.put, List.setIfInBounds_toArray, List.set_cons_zero, List.set_cons_succ, Array.toArray_toList]
          refine tkH 4 ⟨some 75, .load 155 (.tmp 3), 155, "oil.go:158", #[], none⟩ (v := ?_) hS0 ?_ ?_
          rotate_left
          · intro X ⟨x0, x1, x2⟩; go_simp; try with_reducible rfl
          simp only [Act.put, List.setIfInBounds_toArray, List.set_cons_zero, List.set_cons_succ, Array.toArray_toList]
          refine tkH 5 ⟨some 76, .move (.tmp 5), 3, "oil.go:158", #[], none⟩ (v := ?_) hS0 ?_ ?_
          rotate_left
          · intro X ⟨x0, x1, x2⟩; go_simp; try with_reducible rfl
          simp only [Act.put, List.setIfInBounds_toArray, List.set_cons_zero, List.set_cons_succ, Array.toArray_toList]
          refine wpAnyH_ready (rs := [6]) (by kernel_rfl) (by simp) (AllReadyH.cons (o := ⟨none, .mapUpdate 127 (.tmp 74) (.tmp 75) (.tmp 76), 0, "oil.go:158", #[⟨3, .data⟩, ⟨4, .data⟩, ⟨5, .data⟩, ⟨0, .phase⟩, ⟨1, .phase⟩, ⟨2, .phase⟩, ⟨3, .phase⟩, ⟨4, .phase⟩, ⟨5, .phase⟩], none⟩) rfl (fun K hK => ?_) AllReadyH.nil)
          go_simp
          refine hK.out _ _ (⟨f0, f1, f2⟩) (fun hS1 => ?_)
          clear hS0 hK K
          refine wpAnyH_done (by kernel_rfl) ?_ _
          clear hS1
          clear hrun y9 u0 u1 f0 f1 f2
          go_wp2_with fail
          go_ret
          exact HFIN.out

section
variable {w0 W W' : World} {Bw Bk : Nat} {s : St} {A : Option Addr} {cp Bs Bl : Nat}
theorem WkEnvT.move (h : WkEnvT w0 Bw Bk s A cp Bs Bl W) (k : MK Bk W W') : WkEnvT w0 Bw Bk s A cp Bs Bl W' :=
  ⟨(k.block _ h.lt h.ne).trans h.wk, fun j hj => (k.block j (Nat.lt_of_lt_of_le hj h.size) (by have := h.lk; omega)).trans (h.old j hj), Nat.le_trans h.size k.size, h.ne, h.lk, h.nts⟩
end

set_option maxRecDepth 100000 in
set_option maxHeartbeats 16000000 in
theorem cheapT_any (w0 : World) (Bw Bk : Nat) (s : St) (J : Job) (A : Option Addr) (cp Bs Bl : Nat) (hok : StOk s) (hJ : JobS s J) (hJo : JobOk J) (hF : JobFT w0 s J Bs Bl) : ∀ (r i : Nat) (o : Int) (W : World) (m : Int → Int → Option Int), i + r = s.ns.length → (0 ≤ o ∧ o ≤ 400) → WkEnvT w0 Bw Bk s A cp Bs Bl W → SpotMap W Bk m → Memo s J m →
    Calls Try.prog 107 #[.pointer (some ⟨Bw, 0, none⟩), .agg #[.int .i64 i, .int .i64 o]] W (CPost s J Bk r i o W) := by
  have hlen := hok.len
  intro r
  induction r with
  | zero =>
    intro i o W m hir ho hE hM hm
    have hb0 : Below W.heap.size W (W.alloc (.cells #[.int .i64 i, .int .i64 o] 155)) := (Below.refl _ _).alloc (Nat.le_refl _) _
    have hn0 := Go.heap_alloc_new W (.cells #[.int .i64 i, .int .i64 o] 155)
    have HE1 := Lib.hid (hE.keep hb0)
    have HN0 := Lib.hid hn0
    have HB0 := Lib.hid hb0
    have HM0 := Lib.hid (hM.of_block (hb0.block _ hM.lt))
    have HMM := Lib.hid hm
    have hieq : ((i : Int) == (s.ns.length : Int)) = true := by simp; omega
    have HIR := Lib.hid hir
    clear hok hJ hJo hF hb0 hn0 hE hM hm hir
    go_enter Try.func107, Try.ntmps107
    go_wp2_with fail
    generalize W.alloc (.cells #[.int .i64 i, .int .i64 o] 155) = w1 at HE1 HN0 HB0 HM0 ⊢
    obtain ⟨Bt, hBt⟩ : ∃ Bt, W.heap.size = Bt := ⟨_, rfl⟩
    rw [hBt] at HN0 ⊢
    clear hBt
    obtain ⟨x0, x1, x2, x3, x4, x5, x6, x7, x8, x9⟩ := HE1.out.cells
    have t0 : w1.cell? ⟨Bt, 0, none⟩ = some (.int .i64 (i : Int)) := by simp [World.cell?, HN0.out]
    clear x0 x1 x2 x3 x5 x6 x7 x8 x9
    refine wp_region_held_drew (S := fun X => X.cell? ⟨Bw, 4, none⟩ = some (.slice A s.ns.length cp) ∧ X.cell? ⟨Bt, 0, none⟩ = some (.int .i64 (i : Int))) (by kernel_rfl) (⟨x4, t0⟩) (fun hS0 => ?_)
    refine tkH 0 ⟨some 10, .fieldAddr 155 (.tmp 3) 0, 0, "oil.go:145", #[], none⟩ (v := ?_) hS0 ?_ ?_
    rotate_left
    · intro X ⟨x0, x1⟩; go_simp; try with_reducible rfl
    simp only [Act.put, List.setIfInBounds_toArray, List.set_cons_zero, List.set_cons_succ, Array.toArray_toList]
    refine tkH 1 ⟨some 11, .load 3 (.tmp 10), 3, "oil.go:145", #[⟨0, .data⟩], none⟩ (v := ?_) hS0 ?_ ?_
    rotate_left
    · intro X ⟨x0, x1⟩; go_simp; try with_reducible rfl
    simp only [Act.put, List.setIfInBounds_toArray, List.set_cons_zero, List.set_cons_succ, Array.toArray_toList]
    refine tkH 2 ⟨some 12, .move (.tmp 0), 126, "oil.go:145", #[], none⟩ (v := ?_) hS0 ?_ ?_
    rotate_left
    · intro X ⟨x0, x1⟩; go_simp; try with_reducible rfl
    simp only [Act.put, List.setIfInBounds_toArray, List.set_cons_zero, List.set_cons_succ, Array.toArray_toList]
    refine tkH 3 ⟨some 13, .nilCheck (.tmp 12), 0, "oil.go:145", #[⟨2, .data⟩], none⟩ (v := ?_) hS0 ?_ ?_
    rotate_left
    · intro X ⟨x0, x1⟩; go_simp; try with_reducible rfl
    simp only [Act.put, List.setIfInBounds_toArray, List.set_cons_zero, List.set_cons_succ, Array.toArray_toList]
    refine tkH 4 ⟨some 14, .fieldAddr 131 (.tmp 13) 0, 0, "oil.go:145", #[⟨3, .data⟩], none⟩ (v := ?_) hS0 ?_ ?_
    rotate_left
    · intro X ⟨x0, x1⟩; go_simp; try with_reducible rfl
    simp only [Act.put, List.setIfInBounds_toArray, List.set_cons_zero, List.set_cons_succ, Array.toArray_toList]
    refine tkH 5 ⟨some 15, .fieldAddr 39 (.tmp 14) 3, 0, "oil.go:145", #[⟨4, .data⟩], none⟩ (v := ?_) hS0 ?_ ?_
    rotate_left
    · intro X ⟨x0, x1⟩; go_simp; try with_reducible rfl
    simp only [Act.put, List.setIfInBounds_toArray, List.set_cons_zero, List.set_cons_succ, Array.toArray_toList]
    refine tkH 6 ⟨some 16, .load 37 (.tmp 15), 37, "oil.go:145", #[⟨5, .data⟩], none⟩ (v := ?_) hS0 ?_ ?_
    rotate_left
    · intro X ⟨x0, x1⟩; go_simp; try with_reducible rfl
    simp only [Act.put, List.setIfInBounds_toArray, List.set_cons_zero, List.set_cons_succ, Array.toArray_toList]
    refine tkH 7 ⟨some 17, .call ⟨.builtin .len, #[.tmp 16], #[37]⟩, 3, "oil.go:145", #[⟨6, .data⟩], none⟩ (v := ?_) hS0 ?_ ?_
    rotate_left
    · intro X ⟨x0, x1⟩; go_simp; try with_reducible rfl
    simp only [Act.put, List.setIfInBounds_toArray, List.set_cons_zero, List.set_cons_succ, Array.toArray_toList]
    refine tkH 8 ⟨some 18, .binOp .eql 3 (.tmp 11) (.tmp 17) 3, 4, "oil.go:145", #[⟨1, .data⟩, ⟨7, .data⟩], none⟩ (v := ?_) hS0 ?_ ?_
    rotate_left
    · intro X ⟨x0, x1⟩; go_simp; try with_reducible rfl
    simp only [Act.put, List.setIfInBounds_toArray, List.set_cons_zero, List.set_cons_succ, Array.toArray_toList]
    refine wpAnyH_done (by kernel_rfl) ?_ _
    clear hS0
    have hfin : CPost s J Bk 0 i o W (.returned (.int .i64 0)) w1.drew := ⟨rfl, MK.of_below (HB0.out.drew), _, HM0.out, HMM.out⟩
    have HFIN := Lib.hid hfin
    clear hfin x4 t0
    go_wp2_with fail
    go_ret
    exact HFIN.out
  | succ r ih =>
    intro i o W m hir ho hE hM hm
    have hb0 : Below W.heap.size W (W.alloc (.cells #[.int .i64 i, .int .i64 o] 155)) := (Below.refl _ _).alloc (Nat.le_refl _) _
    have hn0 := Go.heap_alloc_new W (.cells #[.int .i64 i, .int .i64 o] 155)
    have hwk := hE.lk
    have lBk := hM.lt
    have HE1 := Lib.hid (hE.keep hb0)
    have HN0 := Lib.hid hn0
    have HB0 := Lib.hid hb0
    have HM0 := Lib.hid (hM.of_block (hb0.block _ hM.lt))
    have HMM := Lib.hid hm
    have hieq : ((i : Int) == (s.ns.length : Int)) = false := by simp; omega
    have HIR := Lib.hid hir
    have hi : i < s.ns.length := by omega
    have hr6 : r ≤ 5 := by omega
    have IH := Lib.hid ih
    have HOK := Lib.hid hok
    have HJ := Lib.hid hJ
    have HJO := Lib.hid hJo
    have HF := Lib.hid hF
    have hrng := hJ.rng i hi
    have lwW := hE.lt
    have nwk := hE.ne
    clear hok hJ hJo hF hb0 hn0 hE hM hm hir ih
    go_enter Try.func107, Try.ntmps107
    go_wp2_with fail
    generalize W.alloc (.cells #[.int .i64 i, .int .i64 o] 155) = w1 at HE1 HN0 HB0 HM0 ⊢
    obtain ⟨Bt, hBt⟩ : ∃ Bt, W.heap.size = Bt := ⟨_, rfl⟩
    have ntk : Bt ≠ Bk := by omega
    have oBt : W.heap.size ≤ Bt := by omega
    rw [hBt] at HN0 ⊢
    clear hBt
    obtain ⟨x0, x1, x2, x3, x4, x5, x6, x7, x8, x9⟩ := HE1.out.cells
    have t0 : w1.cell? ⟨Bt, 0, none⟩ = some (.int .i64 (i : Int)) := by simp [World.cell?, HN0.out]
    have t1 : w1.cell? ⟨Bt, 1, none⟩ = some (.int .i64 o) := by simp [World.cell?, HN0.out]
    clear x0 x1 x2 x3 x6 x7 x8
    refine wp_region_held_drew (S := fun X => X.cell? ⟨Bw, 4, none⟩ = some (.slice A s.ns.length cp) ∧ X.cell? ⟨Bt, 0, none⟩ = some (.int .i64 (i : Int))) (by kernel_rfl) (⟨x4, t0⟩) (fun hS0 => ?_)
    refine tkH 0 ⟨some 10, .fieldAddr 155 (.tmp 3) 0, 0, "oil.go:145", #[], none⟩ (v := ?_) hS0 ?_ ?_
    rotate_left
    · intro X ⟨x0, x1⟩; go_simp; try with_reducible rfl
    simp only [Act.put, List.setIfInBounds_toArray, List.set_cons_zero, List.set_cons_succ, Array.toArray_toList]
    refine tkH 1 ⟨some 11, .load 3 (.tmp 10), 3, "oil.go:145", #[⟨0, .data⟩], none⟩ (v := ?_) hS0 ?_ ?_
    rotate_left
    · intro X ⟨x0, x1⟩; go_simp; try with_reducible rfl
    simp only [Act.put, List.setIfInBounds_toArray, List.set_cons_zero, List.set_cons_succ, Array.toArray_toList]
    refine tkH 2 ⟨some 12, .move (.tmp 0), 126, "oil.go:145", #[], none⟩ (v := ?_) hS0 ?_ ?_
    rotate_left
    · intro X ⟨x0, x1⟩; go_simp; try with_reducible rfl
    simp only [Act.put, List.setIfInBounds_toArray, List.set_cons_zero, List.set_cons_succ, Array.toArray_toList]
    refine tkH 3 ⟨some 13, .nilCheck (.tmp 12), 0, "oil.go:145", #[⟨2, .data⟩], none⟩ (v := ?_) hS0 ?_ ?_
    rotate_left
    · intro X ⟨x0, x1⟩; go_simp; try with_reducible rfl
    simp only [Act.put, List.setIfInBounds_toArray, List.set_cons_zero, List.set_cons_succ, Array.toArray_toList]
    refine tkH 4 ⟨some 14, .fieldAddr 131 (.tmp 13) 0, 0, "oil.go:145", #[⟨3, .data⟩], none⟩ (v := ?_) hS0 ?_ ?_
    rotate_left
    · intro X ⟨x0, x1⟩; go_simp; try with_reducible rfl
    simp only [Act.put, List.setIfInBounds_toArray, List.set_cons_zero, List.set_cons_succ, Array.toArray_toList]
    refine tkH 5 ⟨some 15, .fieldAddr 39 (.tmp 14) 3, 0, "oil.go:145", #[⟨4, .data⟩], none⟩ (v := ?_) hS0 ?_ ?_
    rotate_left
    · intro X ⟨x0, x1⟩; go_simp; try with_reducible rfl
    simp only [Act.put, List.setIfInBounds_toArray, List.set_cons_zero, List.set_cons_succ, Array.toArray_toList]
    refine tkH 6 ⟨some 16, .load 37 (.tmp 15), 37, "oil.go:145", #[⟨5, .data⟩], none⟩ (v := ?_) hS0 ?_ ?_
    rotate_left
    · intro X ⟨x0, x1⟩; go_simp; try with_reducible rfl
    simp only [Act.put, List.setIfInBounds_toArray, List.set_cons_zero, List.set_cons_succ, Array.toArray_toList]
    refine tkH 7 ⟨some 17, .call ⟨.builtin .len, #[.tmp 16], #[37]⟩, 3, "oil.go:145", #[⟨6, .data⟩], none⟩ (v := ?_) hS0 ?_ ?_
    rotate_left
    · intro X ⟨x0, x1⟩; go_simp; try with_reducible rfl
    simp only [Act.put, List.setIfInBounds_toArray, List.set_cons_zero, List.set_cons_succ, Array.toArray_toList]
    refine tkH 8 ⟨some 18, .binOp .eql 3 (.tmp 11) (.tmp 17) 3, 4, "oil.go:145", #[⟨1, .data⟩, ⟨7, .data⟩], none⟩ (v := ?_) hS0 ?_ ?_
    rotate_left
    · intro X ⟨x0, x1⟩; go_simp; try with_reducible rfl
    simp only [Act.put, List.setIfInBounds_toArray, List.set_cons_zero, List.set_cons_succ, Array.toArray_toList]
    refine wpAnyH_done (by kernel_rfl) ?_ _
    clear hS0
    clear x4
    have hd2 : Below w1.heap.size w1 w1.drew := (Below.refl _ _).drew
    have HE2 := Lib.hid (HE1.out.keep hd2)
    have HM2 := Lib.hid (HM0.out.of_block (w' := w1.drew) rfl)
    have HB2 := Lib.hid (HB0.out.drew)
    have HN2 := Lib.hid (show w1.drew.heap[Bt]? = _ from HN0.out)
    replace t0 := cell_later hd2 t0
    replace t1 := cell_later hd2 t1
    replace x5 := cell_later hd2 x5
    replace x9 := cell_later hd2 x9
    clear hd2 HE1 HM0 HB0 HN0
    go_wp2_with fail
    generalize w1.drew = w2 at HE2 HM2 HB2 HN2 t0 t1 x5 x9 ⊢
    have hkey := spot_key (i : Int) o (key_wf (by omega)) (key_wf (by omega))
    have hlk := (HM2.out.of_block (w' := w2.drew) rfl).run_lookup hkey
    unfold spotV at hlk
    obtain ⟨mv, hmv⟩ : ∃ mv, m i o = mv := ⟨_, rfl⟩
    rw [hmv] at hlk
    have HKEY := Lib.hid hkey
    have HMV := Lib.hid hmv
    clear hkey hmv
    refine wp_region_held_drew (S := fun X => X.cell? ⟨Bw, 9, none⟩ = some (.map (some Bk)) ∧ X.cell? ⟨Bt, 0, none⟩ = some (.int .i64 (i : Int)) ∧ X.cell? ⟨Bt, 1, none⟩ = some (.int .i64 o)) (by kernel_rfl) (⟨x9, t0, t1⟩) (fun hS0 => ?_)
    refine tkH 0 ⟨some 20, .move (.tmp 0), 126, "oil.go:148", #[], none⟩ (v := ?_) hS0 ?_ ?_
    rotate_left
    · intro X ⟨x0, x1, x2⟩; go_simp; try with_reducible rfl
    simp only [Act.put, List.setIfInBounds_toArray, List.set_cons_zero, List.set_cons_succ, Array.toArray_toList]
    refine tkH 1 ⟨some 21, .nilCheck (.tmp 20), 0, "oil.go:148", #[⟨0, .data⟩], none⟩ (v := ?_) hS0 ?_ ?_
    rotate_left
    · intro X ⟨x0, x1, x2⟩; go_simp; try with_reducible rfl
    simp only [Act.put, List.setIfInBounds_toArray, List.set_cons_zero, List.set_cons_succ, Array.toArray_toList]
    refine tkH 2 ⟨some 22, .fieldAddr 131 (.tmp 21) 5, 0, "oil.go:148", #[⟨1, .data⟩], none⟩ (v := ?_) hS0 ?_ ?_
    rotate_left
    · intro X ⟨x0, x1, x2⟩; go_simp; try with_reducible rfl
    simp only [Act.put, List.setIfInBounds_toArray, List.set_cons_zero, List.set_cons_succ, Array.toArray_toList]
    refine tkH 3 ⟨some 23, .load 127 (.tmp 22), 127, "oil.go:148", #[⟨2, .data⟩], none⟩ (v := ?_) hS0 ?_ ?_
    rotate_left
    · intro X ⟨x0, x1, x2⟩; go_simp; try with_reducible rfl
    simp only [Act.put, List.setIfInBounds_toArray, List.set_cons_zero, List.set_cons_succ, Array.toArray_toList]
    refine tkH 4 ⟨some 24, .load 155 (.tmp 3), 155, "oil.go:148", #[], none⟩ (v := ?_) hS0 ?_ ?_
    rotate_left
    · intro X ⟨x0, x1, x2⟩; go_simp; try with_reducible rfl
    simp only [Act.put, List.setIfInBounds_toArray, List.set_cons_zero, List.set_cons_succ, Array.toArray_toList]
    refine wpAnyH_ready (rs := [5]) (by kernel_rfl) (by simp) (AllReadyH.cons (o := ⟨some 25, .lookup 127 (.tmp 23) (.tmp 24) true, 115, "oil.go:148", #[⟨3, .data⟩, ⟨4, .data⟩], none⟩) rfl (fun K hK => ?_) AllReadyH.nil)
    go_simp
    refine hK.out _ _ (hS0) (fun hS1 => ?_)
    clear hS0 hK K
    refine tkH 6 ⟨some 19, .move (.tmp 25), 115, "oil.go:148", #[⟨5, .data⟩], none⟩ (v := ?_) hS1 ?_ ?_
    rotate_left
    · intro X ⟨x0, x1, x2⟩; go_simp; try with_reducible rfl
    simp only [Act.put, List.setIfInBounds_toArray, List.set_cons_zero, List.set_cons_succ, Array.toArray_toList]
    refine tkH 7 ⟨some 26, .extract (.tmp 19) 0, 3, "oil.go:148", #[⟨6, .data⟩], none⟩ (v := ?_) hS1 ?_ ?_
    rotate_left
    · intro X ⟨x0, x1, x2⟩; go_simp; try with_reducible rfl
    simp only [Act.put, List.setIfInBounds_toArray, List.set_cons_zero, List.set_cons_succ, Array.toArray_toList]
    refine tkH 8 ⟨some 27, .extract (.tmp 19) 1, 4, "oil.go:148", #[⟨6, .data⟩, { on := 9, ground := Ground.gcOnly Departure.lateStores }], none⟩ (v := ?_) hS1 ?_ ?_
    rotate_left
    · intro X ⟨x0, x1, x2⟩; go_simp; try with_reducible rfl
    simp only [Act.put, List.setIfInBounds_toArray, List.set_cons_zero, List.set_cons_succ, Array.toArray_toList]
    refine tkH 9 ⟨some 5, .assign (.tmp 26), 3, "oil.go:148", #[⟨7, .data⟩, ⟨0, .phase⟩, ⟨1, .phase⟩, ⟨2, .phase⟩, ⟨3, .phase⟩, ⟨4, .phase⟩, ⟨5, .phase⟩, ⟨6, .phase⟩, ⟨7, .phase⟩, ⟨8, .textOnly .lateStores⟩], none⟩ (v := ?_) hS1 ?_ ?_
    rotate_left
    · intro X ⟨x0, x1, x2⟩; go_simp; try with_reducible rfl
    simp only [Act.put, List.setIfInBounds_toArray, List.set_cons_zero, List.set_cons_succ, Array.toArray_toList]
    refine tkH 10 ⟨some 6, .assign (.tmp 27), 4, "oil.go:148", #[⟨8, .data⟩, ⟨9, .chain⟩, ⟨0, .phase⟩, ⟨1, .phase⟩, ⟨2, .phase⟩, ⟨3, .phase⟩, ⟨4, .phase⟩, ⟨5, .phase⟩, ⟨6, .phase⟩, ⟨7, .phase⟩, ⟨8, .phase⟩, ⟨9, .phase⟩], none⟩ (v := ?_) hS1 ?_ ?_
    rotate_left
    · intro X ⟨x0, x1, x2⟩; go_simp; try with_reducible rfl
    simp only [Act.put, List.setIfInBounds_toArray, List.set_cons_zero, List.set_cons_succ, Array.toArray_toList]
    refine wpAnyH_done (by kernel_rfl) ?_ _
    clear hS1
    clear hlk
    have hd3 : Below w2.heap.size w2 w2.drew := (Below.refl _ _).drew
    have HE3 := Lib.hid (HE2.out.keep hd3)
    have HM3 := Lib.hid (HM2.out.of_block (w' := w2.drew) rfl)
    have HB3 := Lib.hid (HB2.out.drew)
    have HN3 := Lib.hid (show w2.drew.heap[Bt]? = _ from HN2.out)
    replace t0 := cell_later hd3 t0
    replace t1 := cell_later hd3 t1
    replace x5 := cell_later hd3 x5
    replace x9 := cell_later hd3 x9
    clear hd3 HE2 HM2 HB2 HN2
    generalize w2.drew = w3 at HE3 HM3 HB3 HN3 t0 t1 x5 x9 ⊢
    cases mv with
    | some v =>
      obtain ⟨r', j', hj1, hj2, hv⟩ := HMM.out i o v HMV.out
      have hfin : CPost s J Bk (r + 1) i o W (.returned (.int .i64 v)) w3 := by
        have e1 : j' = i := by omega
        subst e1
        have e2 : r' = r + 1 := by have := HIR.out; omega
        subst e2
        exact ⟨by rw [hv], MK.of_below HB3.out, _, HM3.out, HMM.out⟩
      have HFIN := Lib.hid hfin
      clear hfin hj1 hj2 hv
      go_wp2_with fail
      go_ret
      exact HFIN.out
    | none =>
      go_wp2_with fail
      refine wp_region_held_drew (S := fun X => X.cell? ⟨Bw, 5, none⟩ = some (.func (.func 85) #[] #[.pointer (some ⟨Bs, 0, none⟩)]) ∧ X.cell? ⟨Bt, 0, none⟩ = some (.int .i64 (i : Int))) (by kernel_rfl) (⟨x5, t0⟩) (fun hS0 => ?_)
      refine tkH 0 ⟨some 30, .move (.tmp 0), 126, "oil.go:153", #[], none⟩ (v := ?_) hS0 ?_ ?_
      rotate_left
      · intro X ⟨x0, x1⟩; go_simp; try with_reducible rfl
      simp only [Act.put, List.setIfInBounds_toArray, List.set_cons_zero, List.set_cons_succ, Array.toArray_toList]
      refine tkH 1 ⟨some 31, .nilCheck (.tmp 30), 0, "oil.go:153", #[⟨0, .data⟩], none⟩ (v := ?_) hS0 ?_ ?_
      rotate_left
      · intro X ⟨x0, x1⟩; go_simp; try with_reducible rfl
      simp only [Act.put, List.setIfInBounds_toArray, List.set_cons_zero, List.set_cons_succ, Array.toArray_toList]
      refine tkH 2 ⟨some 32, .fieldAddr 131 (.tmp 31) 1, 0, "oil.go:153", #[⟨1, .data⟩], none⟩ (v := ?_) hS0 ?_ ?_
      rotate_left
      · intro X ⟨x0, x1⟩; go_simp; try with_reducible rfl
      simp only [Act.put, List.setIfInBounds_toArray, List.set_cons_zero, List.set_cons_succ, Array.toArray_toList]
      refine tkH 3 ⟨some 33, .load 128 (.tmp 32), 128, "oil.go:153", #[⟨2, .data⟩], none⟩ (v := ?_) hS0 ?_ ?_
      rotate_left
      · intro X ⟨x0, x1⟩; go_simp; try with_reducible rfl
      simp only [Act.put, List.setIfInBounds_toArray, List.set_cons_zero, List.set_cons_succ, Array.toArray_toList]
      refine tkH 4 ⟨some 34, .fieldAddr 155 (.tmp 3) 0, 0, "oil.go:153", #[], none⟩ (v := ?_) hS0 ?_ ?_
      rotate_left
      · intro X ⟨x0, x1⟩; go_simp; try with_reducible rfl
      simp only [Act.put, List.setIfInBounds_toArray, List.set_cons_zero, List.set_cons_succ, Array.toArray_toList]
      refine tkH 5 ⟨some 35, .load 3 (.tmp 34), 3, "oil.go:153", #[⟨4, .data⟩], none⟩ (v := ?_) hS0 ?_ ?_
      rotate_left
      · intro X ⟨x0, x1⟩; go_simp; try with_reducible rfl
      simp only [Act.put, List.setIfInBounds_toArray, List.set_cons_zero, List.set_cons_succ, Array.toArray_toList]
      refine wpAnyH_ready (rs := [6]) (by kernel_rfl) (by simp) (AllReadyH.cons (o := ⟨some 36, .call ⟨.value (.tmp 33), #[.tmp 35], #[3]⟩, 3, "oil.go:153", #[⟨3, .data⟩, ⟨5, .data⟩], none⟩) rfl (fun K hK => ?_) AllReadyH.nil)
      go_simp
      with_reducible refine (HF.out.lo _ HE3.out.drew.old i hi).mono ?_
      rintro e w4 ⟨rfl, hb4⟩
      have hb4' : Below w3.heap.size w3 w4 := (Below.refl _ w3).drew.trans hb4
      go_wp2_with fail
      refine hK.out _ _ (⟨cell_later hb4' x5, cell_later hb4' t0⟩) (fun hS1 => ?_)
      clear hS0 hK K
      refine tkH 7 ⟨some 7, .assign (.tmp 36), 3, "oil.go:153", #[⟨6, .data⟩, ⟨6, .chain⟩, ⟨0, .phase⟩, ⟨1, .phase⟩, ⟨2, .phase⟩, ⟨3, .phase⟩, ⟨4, .phase⟩, ⟨5, .phase⟩, ⟨6, .phase⟩], none⟩ (v := ?_) hS1 ?_ ?_
      rotate_left
      · intro X ⟨x0, x1⟩; go_simp; try with_reducible rfl
      simp only [Act.put, List.setIfInBounds_toArray, List.set_cons_zero, List.set_cons_succ, Array.toArray_toList]
      refine wpAnyH_done (by kernel_rfl) ?_ _
      clear hS1
      have HE4 := Lib.hid (HE3.out.keep hb4')
      have HM4 := Lib.hid (HM3.out.of_block (hb4'.block _ HM3.out.lt))
      have HB4 := Lib.hid (HB3.out.trans (hb4'.mono HB3.out.size))
      have HN4 := Lib.hid ((hb4'.block _ (Array.getElem?_eq_some_iff.1 HN3.out).1).trans HN3.out)
      have lW4 := HB4.out.size
      have lBt := (Array.getElem?_eq_some_iff.1 HN4.out).1
      clear hb4 hb4' x5 x9 t0 t1 HE3 HM3 HB3 HN3
      go_wp2_with fail
      go_loopw [5, 7] (CRel s J Bk r i o w4) (fun _ v _ => (J.hi i + 1 - intOf v).toNat)
      case atStart => exact ⟨0, Nat.zero_le _, by simp, rfl, MK.refl _ _, m, HM4.out, HMM.out⟩
      case round =>
        obtain ⟨q, hq, rfl, rfl, hmk, m', hM', hm'⟩ := hrel
        have HMK := Lib.hid hmk
        have HM5 := Lib.hid hM'
        have HMM5 := Lib.hid hm'
        have HE5 := Lib.hid (HE4.out.move hmk)
        have HN5 := Lib.hid ((hmk.block Bt lBt ntk).trans HN4.out)
        have hs5 := hmk.size
        clear hmk hM' hm'
        obtain ⟨y0, y1, y2, y3, y4, y5, y6, y7, y8, y9⟩ := HE5.out.cells
        have u0 : wr.cell? ⟨Bt, 0, none⟩ = some (.int .i64 (i : Int)) := by simp [World.cell?, HN5.out]
        have u1 : wr.cell? ⟨Bt, 1, none⟩ = some (.int .i64 o) := by simp [World.cell?, HN5.out]
        have hbb := bestTo_bd (s := s) HJO.out r i o (by omega) q hq
        obtain ⟨nn, hnn⟩ : ∃ nn, J.lo i + (q : Int) = nn := ⟨_, rfl⟩
        obtain ⟨bb, hb⟩ : ∃ bb, bestTo (chpG s J r i o) q = bb := ⟨_, rfl⟩
        rw [hb] at hbb
        rw [hnn, hb]
        have HNN := Lib.hid hnn
        have HBB := Lib.hid hb
        have hnr : 0 ≤ nn ∧ nn ≤ 11 := by unfold numN at hq; omega
        obtain ⟨hh, hhh⟩ : ∃ hh, J.hi i = hh := ⟨_, rfl⟩
        have HHH := Lib.hid hhh
        have hhb : hh ≤ 10 := by omega
        have hcon := HF.out.hi _ HE5.out.drew.old i hi
        rw [hhh] at hcon
        have HCON := Lib.hid hcon
        clear y0 y1 y2 y3 y4 y5 y8 hb hnn hcon hhh
        by_cases hlt : q < numN J i
        · have hle : decide (nn ≤ hh) = true := decide_eq_true (by have h1 := HNN.out; have h2 := HHH.out; unfold numN at hlt; omega)
          have hnlo : J.lo i ≤ nn := by have h1 := HNN.out; omega
          have hnhi : nn ≤ J.hi i := by have h1 := HNN.out; unfold numN at hlt; omega
          have HLO := Lib.hid hnlo
          have HHI := Lib.hid hnhi
          clear hnlo hnhi
          go_wp2_with fail
          refine wp_region_held_drew (S := fun X => X.cell? ⟨Bw, 6, none⟩ = some (.func (.func 86) #[] #[.pointer (some ⟨Bs, 0, none⟩)]) ∧ X.cell? ⟨Bt, 0, none⟩ = some (.int .i64 (i : Int))) (by kernel_rfl) (⟨y6, u0⟩) (fun hS0 => ?_)
          refine tkH 0 ⟨some 37, .move (.tmp 7), 3, "oil.go:153", #[], none⟩ (v := ?_) hS0 ?_ ?_
          rotate_left
          · intro X ⟨x0, x1⟩; go_simp; try with_reducible rfl
          simp only [Act.put, List.setIfInBounds_toArray, List.set_cons_zero, List.set_cons_succ, Array.toArray_toList]
          refine tkH 1 ⟨some 38, .move (.tmp 0), 126, "oil.go:153", #[], none⟩ (v := ?_) hS0 ?_ ?_
          rotate_left
          · intro X ⟨x0, x1⟩; go_simp; try with_reducible rfl
          simp only [Act.put, List.setIfInBounds_toArray, List.set_cons_zero, List.set_cons_succ, Array.toArray_toList]
          refine tkH 2 ⟨some 39, .nilCheck (.tmp 38), 0, "oil.go:153", #[⟨1, .data⟩], none⟩ (v := ?_) hS0 ?_ ?_
          rotate_left
          · intro X ⟨x0, x1⟩; go_simp; try with_reducible rfl
          simp only [Act.put, List.setIfInBounds_toArray, List.set_cons_zero, List.set_cons_succ, Array.toArray_toList]
          refine tkH 3 ⟨some 40, .fieldAddr 131 (.tmp 39) 2, 0, "oil.go:153", #[⟨2, .data⟩], none⟩ (v := ?_) hS0 ?_ ?_
          rotate_left
          · intro X ⟨x0, x1⟩; go_simp; try with_reducible rfl
          simp only [Act.put, List.setIfInBounds_toArray, List.set_cons_zero, List.set_cons_succ, Array.toArray_toList]
          refine tkH 4 ⟨some 41, .load 128 (.tmp 40), 128, "oil.go:153", #[⟨3, .data⟩], none⟩ (v := ?_) hS0 ?_ ?_
          rotate_left
          · intro X ⟨x0, x1⟩; go_simp; try with_reducible rfl
          simp only [Act.put, List.setIfInBounds_toArray, List.set_cons_zero, List.set_cons_succ, Array.toArray_toList]
          refine tkH 5 ⟨some 42, .fieldAddr 155 (.tmp 3) 0, 0, "oil.go:153", #[], none⟩ (v := ?_) hS0 ?_ ?_
          rotate_left
          · intro X ⟨x0, x1⟩; go_simp; try with_reducible rfl
          simp only [Act.put, List.setIfInBounds_toArray, List.set_cons_zero, List.set_cons_succ, Array.toArray_toList]
          refine tkH 6 ⟨some 43, .load 3 (.tmp 42), 3, "oil.go:153", #[⟨5, .data⟩], none⟩ (v := ?_) hS0 ?_ ?_
          rotate_left
          · intro X ⟨x0, x1⟩; go_simp; try with_reducible rfl
          simp only [Act.put, List.setIfInBounds_toArray, List.set_cons_zero, List.set_cons_succ, Array.toArray_toList]
          refine wpAnyH_ready (rs := [7]) (by kernel_rfl) (by simp) (AllReadyH.cons (o := ⟨some 44, .call ⟨.value (.tmp 41), #[.tmp 43], #[3]⟩, 3, "oil.go:153", #[⟨4, .data⟩, ⟨6, .data⟩], none⟩) rfl (fun K hK => ?_) AllReadyH.nil)
          go_simp
          with_reducible refine HCON.out.mono ?_
          rintro e w6 ⟨rfl, hb6⟩
          have hb6' : Below wr.heap.size wr w6 := (Below.refl _ wr).drew.trans hb6
          go_wp2_with fail
          refine hK.out _ _ (⟨cell_later hb6' y6, cell_later hb6' u0⟩) (fun hS1 => ?_)
          clear hS0 hK K
          refine tkH 8 ⟨some 45, .binOp .leq 3 (.tmp 37) (.tmp 44) 3, 4, "oil.go:153", #[⟨0, .data⟩, ⟨7, .data⟩], none⟩ (v := ?_) hS1 ?_ ?_
          rotate_left
          · intro X ⟨x0, x1⟩; go_simp; try with_reducible rfl
          simp only [Act.put, List.setIfInBounds_toArray, List.set_cons_zero, List.set_cons_succ, Array.toArray_toList]
          refine wpAnyH_done (by kernel_rfl) ?_ _
          clear hS1
          have HE6 := Lib.hid (HE5.out.keep hb6')
          have HM6 := Lib.hid (HM5.out.of_block (hb6'.block _ HM5.out.lt))
          have HK6 := Lib.hid (HMK.out.trans (MK.of_below hb6'))
          have HN6 := Lib.hid ((hb6'.block _ (Array.getElem?_eq_some_iff.1 HN5.out).1).trans HN5.out)
          replace u0 := cell_later hb6' u0
          replace u1 := cell_later hb6' u1
          replace y6 := cell_later hb6' y6
          replace y7 := cell_later hb6' y7
          replace y9 := cell_later hb6' y9
          have ls6 := hb6'.size
          clear hb6 hb6' HE5 HM5 HMK HN5 HCON
          go_wp2_with fail
          with_reducible refine (stepT_any w0 Bw Bk s J A cp Bs Bl HOK.out HJ.out HF.out i o nn w6 hi ho ⟨HLO.out, HHI.out⟩ HE6.out).mono ?_
          rintro e w7 ⟨rfl, hb7⟩
          obtain ⟨no, hno⟩ : ∃ no, nextO s J i nn o = no := ⟨_, rfl⟩
          obtain ⟨nb, hnb⟩ : ∃ nb, nextB s J i nn o = nb := ⟨_, rfl⟩
          have hnob := nextO_bd HOK.out HJ.out hi ⟨HLO.out, HHI.out⟩ ho.1
          rw [hno] at hnob
          rw [hno, hnb]
          have hsuc : bestTo (chpG s J r i o) (q + 1) = if nb then min bb (J.cost i nn + chp s J r (i + 1) no) else bb := by
            simp only [bestTo, chpG]
            rw [HNN.out, HBB.out, hno, hnb]
            cases nb <;> rfl
          have HSUC := Lib.hid hsuc
          clear hsuc hnb hno
          have HE7 := Lib.hid (HE6.out.keep hb7)
          have HM7 := Lib.hid (HM6.out.of_block (hb7.block _ HM6.out.lt))
          have HK7 := Lib.hid (HK6.out.trans (MK.of_below hb7))
          have HN7 := Lib.hid ((hb7.block _ (Array.getElem?_eq_some_iff.1 HN6.out).1).trans HN6.out)
          have v0 := cell_later hb7 u0
          have v7 := cell_later hb7 y7
          have lk7 := HM7.out.lt
          clear hb7 u0 u1 y6 y7 y9 HE6 HM6 HK6 HN6
          cases nb with
          | false =>
            have hbx : Below w7.heap.size w7 (w7.alloc (.cells #[.int .i64 ((i : Int) + 1), .int .i64 no] 155)) := (Below.refl _ _).alloc (Nat.le_refl _) _
            have HM8 := Lib.hid (HM7.out.of_block (hbx.block _ lk7))
            have HK8 := Lib.hid (HK7.out.trans (MK.of_below hbx))
            have hs2 : bestTo (chpG s J r i o) (q + 1) = bb := by rw [HSUC.out]; rfl
            have HS2 := Lib.hid hs2
            clear hs2 hbx v0 v7
            go_wp2_with fail
            go_roundw
            case rel => exact ⟨q + 1, by omega, by rw [← HNN.out]; push_cast; congr 1; omega, by rw [HS2.out], HK8.out, _, HM8.out, HMM5.out⟩
            case measure => have h1 := HNN.out; have h2 := HHH.out; simp [intOf]; unfold numN at hlt; omega
          | true =>
            have hbx : Below w7.heap.size w7 (w7.alloc (.cells #[.int .i64 ((i : Int) + 1), .int .i64 no] 155)) := (Below.refl _ _).alloc (Nat.le_refl _) _
            have HM8 := Lib.hid (HM7.out.of_block (hbx.block _ lk7))
            have HK8 := Lib.hid (HK7.out.trans (MK.of_below hbx))
            have HE8 := Lib.hid (HE7.out.keep hbx)
            have hnx := Go.heap_alloc_new w7 (.cells #[.int .i64 ((i : Int) + 1), .int .i64 no] 155)
            replace v0 := cell_later hbx v0
            replace v7 := cell_later hbx v7
            obtain ⟨C, hC⟩ : ∃ C, J.cost i nn = C := ⟨_, rfl⟩
            obtain ⟨D, hD⟩ : ∃ D, chp s J r (i + 1) no = D := ⟨_, rfl⟩
            have hCb := HJO.out i nn HLO.out HHI.out
            have hDb := chp_bd (s := s) HJO.out r (i + 1) no (by omega)
            rw [hC] at hCb
            rw [hD] at hDb
            have hs2 : bestTo (chpG s J r i o) (q + 1) = min bb (C + D) := by rw [HSUC.out, hC, hD]; rfl
            have HS2 := Lib.hid hs2
            have hIH : ∀ X, WkEnvT w0 Bw Bk s A cp Bs Bl X → SpotMap X Bk m' → Calls Try.prog 107 #[.pointer (some ⟨Bw, 0, none⟩), .agg #[.int .i64 ((i : Int) + 1), .int .i64 no]] X (fun e W' => e = .returned (.int .i64 D) ∧ MK Bk X W' ∧ ∃ m, SpotMap W' Bk m ∧ Memo s J m) := by
              intro X hX1 hX2
              have h := IH.out (i + 1) no X m' (by have := HIR.out; omega) hnob hX1 hX2 HMM5.out
              rw [show (((i + 1 : Nat)) : Int) = (i : Int) + 1 by omega] at h
              unfold CPost at h
              rw [hD] at h
              exact h
            have HIH := Lib.hid hIH
            have HC := Lib.hid hC
            have hwr : IntKind.i64.wrap (C + D) = C + D := IntWalk.i64_in _ (by omega)
            have nxk : w7.heap.size ≠ Bk := by omega
            clear hs2 hbx hC hD hIH
            go_wp2_with fail
            generalize hw8 : w7.alloc (.cells #[.int .i64 ((i : Int) + 1), .int .i64 no] 155) = w8 at HM8 HK8 HE8 hnx v0 v7 ⊢
            clear hw8
            obtain ⟨Bx, hBx⟩ : ∃ Bx, w7.heap.size = Bx := ⟨_, rfl⟩
            rw [hBx] at hnx nxk ⊢
            have a0 : w8.cell? ⟨Bx, 0, none⟩ = some (.int .i64 ((i : Int) + 1)) := by simp [World.cell?, hnx]
            have a1 : w8.cell? ⟨Bx, 1, none⟩ = some (.int .i64 no) := by simp [World.cell?, hnx]
            clear hBx hnx
            refine wp_region_held_drew (S := fun X => X.cell? ⟨Bw, 7, none⟩ = some (.func (.func 87) #[] #[.pointer (some ⟨Bs, 0, none⟩)]) ∧ X.cell? ⟨Bt, 0, none⟩ = some (.int .i64 (i : Int)) ∧ X.cell? ⟨Bx, 0, none⟩ = some (.int .i64 ((i : Int) + 1)) ∧ X.cell? ⟨Bx, 1, none⟩ = some (.int .i64 no)) (by kernel_rfl) (⟨v7, v0, a0, a1⟩) (fun hS0 => ?_)
            refine tkH 0 ⟨some 56, .move (.tmp 5), 3, "oil.go:155", #[], none⟩ (v := ?_) hS0 ?_ ?_
            rotate_left
            · intro X ⟨x0, x1, x2, x3⟩; go_simp; try with_reducible rfl
            simp only [Act.put, List.setIfInBounds_toArray, List.set_cons_zero, List.set_cons_succ, Array.toArray_toList]
            refine tkH 1 ⟨some 57, .move (.tmp 0), 126, "oil.go:155", #[], none⟩ (v := ?_) hS0 ?_ ?_
            rotate_left
            · intro X ⟨x0, x1, x2, x3⟩; go_simp; try with_reducible rfl
            simp only [Act.put, List.setIfInBounds_toArray, List.set_cons_zero, List.set_cons_succ, Array.toArray_toList]
            refine tkH 2 ⟨some 58, .nilCheck (.tmp 57), 0, "oil.go:155", #[⟨1, .data⟩], none⟩ (v := ?_) hS0 ?_ ?_
            rotate_left
            · intro X ⟨x0, x1, x2, x3⟩; go_simp; try with_reducible rfl
            simp only [Act.put, List.setIfInBounds_toArray, List.set_cons_zero, List.set_cons_succ, Array.toArray_toList]
            refine tkH 3 ⟨some 59, .fieldAddr 131 (.tmp 58) 3, 0, "oil.go:155", #[⟨2, .data⟩], none⟩ (v := ?_) hS0 ?_ ?_
            rotate_left
            · intro X ⟨x0, x1, x2, x3⟩; go_simp; try with_reducible rfl
            simp only [Act.put, List.setIfInBounds_toArray, List.set_cons_zero, List.set_cons_succ, Array.toArray_toList]
            refine tkH 4 ⟨some 60, .load 129 (.tmp 59), 129, "oil.go:155", #[⟨3, .data⟩], none⟩ (v := ?_) hS0 ?_ ?_
            rotate_left
            · intro X ⟨x0, x1, x2, x3⟩; go_simp; try with_reducible rfl
            simp only [Act.put, List.setIfInBounds_toArray, List.set_cons_zero, List.set_cons_succ, Array.toArray_toList]
            refine tkH 5 ⟨some 61, .fieldAddr 155 (.tmp 3) 0, 0, "oil.go:155", #[], none⟩ (v := ?_) hS0 ?_ ?_
            rotate_left
            · intro X ⟨x0, x1, x2, x3⟩; go_simp; try with_reducible rfl
            simp only [Act.put, List.setIfInBounds_toArray, List.set_cons_zero, List.set_cons_succ, Array.toArray_toList]
            refine tkH 6 ⟨some 62, .load 3 (.tmp 61), 3, "oil.go:155", #[⟨5, .data⟩], none⟩ (v := ?_) hS0 ?_ ?_
            rotate_left
            · intro X ⟨x0, x1, x2, x3⟩; go_simp; try with_reducible rfl
            simp only [Act.put, List.setIfInBounds_toArray, List.set_cons_zero, List.set_cons_succ, Array.toArray_toList]
            refine tkH 7 ⟨some 63, .move (.tmp 7), 3, "oil.go:155", #[], none⟩ (v := ?_) hS0 ?_ ?_
            rotate_left
            · intro X ⟨x0, x1, x2, x3⟩; go_simp; try with_reducible rfl
            simp only [Act.put, List.setIfInBounds_toArray, List.set_cons_zero, List.set_cons_succ, Array.toArray_toList]
            refine tkH 9 ⟨some 65, .move (.tmp 0), 126, "oil.go:155", #[], none⟩ (v := ?_) hS0 ?_ ?_
            rotate_left
            · intro X ⟨x0, x1, x2, x3⟩; go_simp; try with_reducible rfl
            simp only [Act.put, List.setIfInBounds_toArray, List.set_cons_zero, List.set_cons_succ, Array.toArray_toList]
            refine tkH 10 ⟨some 66, .load 155 (.tmp 8), 155, "oil.go:155", #[], none⟩ (v := ?_) hS0 ?_ ?_
            rotate_left
            · intro X ⟨x0, x1, x2, x3⟩; go_simp; try with_reducible rfl
            simp only [Act.put, List.setIfInBounds_toArray, List.set_cons_zero, List.set_cons_succ, Array.toArray_toList]
            refine wpAnyH_ready (rs := [8]) (by kernel_rfl) (by simp) (AllReadyH.cons (o := ⟨some 64, .call ⟨.value (.tmp 60), #[.tmp 62, .tmp 63], #[3, 3]⟩, 3, "oil.go:155", #[⟨4, .data⟩, ⟨6, .data⟩, ⟨7, .data⟩], none⟩) rfl (fun K hK => ?_) AllReadyH.nil)
            go_simp
            have hco := HF.out.cost _ HE8.out.drew.old i nn hi HLO.out HHI.out
            rw [HC.out] at hco
            with_reducible refine hco.mono ?_
            clear hco
            rintro e w9 ⟨rfl, hb9⟩
            have hb9' : Below w8.heap.size w8 w9 := (Below.refl _ w8).drew.trans hb9
            have HE9 := Lib.hid (HE8.out.keep hb9')
            have HM9 := Lib.hid (HM8.out.of_block (hb9'.block _ HM8.out.lt))
            have HK9 := Lib.hid (HK8.out.trans (MK.of_below hb9'))
            have c0 := cell_later hb9' v7
            have c1 := cell_later hb9' v0
            have c2 := cell_later hb9' a0
            have c3 := cell_later hb9' a1
            clear hb9 hb9' v7 v0 a0 a1
            go_wp2_with fail
            refine hK.out _ _ (⟨c0, c1, c2, c3⟩) (fun hS1 => ?_)
            clear hS0 hK K
            refine wpAnyH_ready (rs := [11]) (by kernel_rfl) (by simp) (AllReadyH.cons (o := ⟨some 67, .call ⟨.value (.func 107), #[.tmp 65, .tmp 66], #[126, 155]⟩, 3, "oil.go:155", #[⟨9, .data⟩, ⟨10, .data⟩, ⟨8, .chain⟩], none⟩) rfl (fun K hK => ?_) AllReadyH.nil)
            go_simp
            with_reducible refine (HIH.out w9 HE9.out HM9.out).mono ?_
            rintro e w10 ⟨rfl, hk10, m2, hM10, hm10⟩
            have HM10 := Lib.hid hM10
            have HMM10 := Lib.hid hm10
            have HK10 := Lib.hid (HK9.out.trans hk10)
            have d0 := hk10.cell c0 nwk
            have d1 := hk10.cell c1 ntk
            have d2 := hk10.cell c2 nxk
            have d3 := hk10.cell c3 nxk
            clear hM10 hm10 hk10 c0 c1 c2 c3
            go_wp2_with fail
            refine hK.out _ _ (⟨d0, d1, d2, d3⟩) (fun hS2 => ?_)
            clear hS1 hK K
            refine tkH 12 ⟨some 68, .binOp .add 3 (.tmp 64) (.tmp 67) 3, 3, "oil.go:155", #[⟨8, .data⟩, ⟨11, .data⟩], none⟩ (v := ?_) hS2 ?_ ?_
            rotate_left
            · intro X ⟨x0, x1, x2, x3⟩; go_simp; try with_reducible rfl
            simp only [Act.put, List.setIfInBounds_toArray, List.set_cons_zero, List.set_cons_succ, Array.toArray_toList]
            clear hwr
            refine wpAnyH_ready (rs := [13]) (by kernel_rfl) (by simp) (AllReadyH.cons (o := ⟨some 69, .buildSlice 27 2 #[(0, .tmp 56), (1, .tmp 68)], 27, "oil.go:155", #[⟨0, .data⟩, ⟨12, .data⟩], none⟩) rfl (fun K hK => ?_) AllReadyH.nil)
            go_simp
            have hbz : Below w10.heap.size w10 (w10.alloc (.cells #[.int .i64 bb, .int .i64 (C + D)] 3)) := (Below.refl _ _).alloc (Nat.le_refl _) _
            refine hK.out _ _ (⟨cell_later hbz d0, cell_later hbz d1, cell_later hbz d2, cell_later hbz d3⟩) (fun hS3 => ?_)
            clear hS2 hK K
            refine wpAnyH_ready (rs := [14]) (by kernel_rfl) (by simp) (AllReadyH.cons (o := ⟨some 70, .call ⟨.value (.func 98), #[.tmp 69], #[27]⟩, 3, "oil.go:155", #[⟨13, .data⟩, ⟨11, .chain⟩], none⟩) rfl (fun K hK => ?_) AllReadyH.nil)
            go_simp
            with_reducible refine (minimum_two w10.heap.size bb (C + D) _ (by simp) (by simp)).mono ?_
            rintro e w' ⟨rfl, rfl⟩
            go_wp2_with fail
            refine hK.out _ _ (⟨cell_later hbz d0, cell_later hbz d1, cell_later hbz d2, cell_later hbz d3⟩) (fun hS4 => ?_)
            clear hS3 hK K
            refine tkH 15 ⟨some 5, .assign (.tmp 70), 3, "oil.go:155", #[⟨14, .data⟩, ⟨14, .chain⟩, ⟨0, .phase⟩, ⟨1, .phase⟩, ⟨2, .phase⟩, ⟨3, .phase⟩, ⟨4, .phase⟩, ⟨5, .phase⟩, ⟨6, .phase⟩, ⟨7, .phase⟩, ⟨8, .phase⟩, ⟨9, .phase⟩, ⟨10, .phase⟩, ⟨11, .phase⟩, ⟨12, .phase⟩, ⟨13, .phase⟩, ⟨14, .phase⟩], none⟩ (v := ?_) hS4 ?_ ?_
            rotate_left
            · intro X ⟨x0, x1, x2, x3⟩; go_simp; try with_reducible rfl
            simp only [Act.put, List.setIfInBounds_toArray, List.set_cons_zero, List.set_cons_succ, Array.toArray_toList]
            refine wpAnyH_done (by kernel_rfl) ?_ _
            clear hS4
            have HM11 := Lib.hid (HM10.out.of_block (hbz.block _ HM10.out.lt))
            have HK11 := Lib.hid (HK10.out.trans (MK.of_below hbz))
            clear hbz d0 d1 d2 d3
            go_wp2_with fail
            go_roundw
            case rel => exact ⟨q + 1, by omega, by rw [← HNN.out]; push_cast; congr 1; omega, by rw [HS2.out], HK11.out, _, HM11.out, HMM10.out⟩
            case measure => have h1 := HNN.out; have h2 := HHH.out; simp [intOf]; unfold numN at hlt; omega
        · have hle : decide (nn ≤ hh) = false := decide_eq_false (by have h1 := HNN.out; have h2 := HHH.out; unfold numN at hlt; omega)
          have hqq : q = numN J i := by omega
          have hbest : chp s J (r + 1) i o = bb := by rw [chp_succ, ← hqq, HBB.out]
          have HBEST := Lib.hid hbest
          clear hbest hqq
          go_wp2_with fail
          refine wp_region_held_drew (S := fun X => X.cell? ⟨Bw, 6, none⟩ = some (.func (.func 86) #[] #[.pointer (some ⟨Bs, 0, none⟩)]) ∧ X.cell? ⟨Bt, 0, none⟩ = some (.int .i64 (i : Int))) (by kernel_rfl) (⟨y6, u0⟩) (fun hS0 => ?_)
          refine tkH 0 ⟨some 37, .move (.tmp 7), 3, "oil.go:153", #[], none⟩ (v := ?_) hS0 ?_ ?_
          rotate_left
          · intro X ⟨x0, x1⟩; go_simp; try with_reducible rfl
          simp only [Act.put, List.setIfInBounds_toArray, List.set_cons_zero, List.set_cons_succ, Array.toArray_toList]
          refine tkH 1 ⟨some 38, .move (.tmp 0), 126, "oil.go:153", #[], none⟩ (v := ?_) hS0 ?_ ?_
          rotate_left
          · intro X ⟨x0, x1⟩; go_simp; try with_reducible rfl
          simp only [Act.put, List.setIfInBounds_toArray, List.set_cons_zero, List.set_cons_succ, Array.toArray_toList]
          refine tkH 2 ⟨some 39, .nilCheck (.tmp 38), 0, "oil.go:153", #[⟨1, .data⟩], none⟩ (v := ?_) hS0 ?_ ?_
          rotate_left
          · intro X ⟨x0, x1⟩; go_simp; try with_reducible rfl
          simp only [Act.put, List.setIfInBounds_toArray, List.set_cons_zero, List.set_cons_succ, Array.toArray_toList]
          refine tkH 3 ⟨some 40, .fieldAddr 131 (.tmp 39) 2, 0, "oil.go:153", #[⟨2, .data⟩], none⟩ (v := ?_) hS0 ?_ ?_
          rotate_left
          · intro X ⟨x0, x1⟩; go_simp; try with_reducible rfl
          simp only [Act.put, List.setIfInBounds_toArray, List.set_cons_zero, List.set_cons_succ, Array.toArray_toList]
          refine tkH 4 ⟨some 41, .load 128 (.tmp 40), 128, "oil.go:153", #[⟨3, .data⟩], none⟩ (v := ?_) hS0 ?_ ?_
          rotate_left
          · intro X ⟨x0, x1⟩; go_simp; try with_reducible rfl
          simp only [Act.put, List.setIfInBounds_toArray, List.set_cons_zero, List.set_cons_succ, Array.toArray_toList]
          refine tkH 5 ⟨some 42, .fieldAddr 155 (.tmp 3) 0, 0, "oil.go:153", #[], none⟩ (v := ?_) hS0 ?_ ?_
          rotate_left
          · intro X ⟨x0, x1⟩; go_simp; try with_reducible rfl
          simp only [Act.put, List.setIfInBounds_toArray, List.set_cons_zero, List.set_cons_succ, Array.toArray_toList]
          refine tkH 6 ⟨some 43, .load 3 (.tmp 42), 3, "oil.go:153", #[⟨5, .data⟩], none⟩ (v := ?_) hS0 ?_ ?_
          rotate_left
          · intro X ⟨x0, x1⟩; go_simp; try with_reducible rfl
          simp only [Act.put, List.setIfInBounds_toArray, List.set_cons_zero, List.set_cons_succ, Array.toArray_toList]
          refine wpAnyH_ready (rs := [7]) (by kernel_rfl) (by simp) (AllReadyH.cons (o := ⟨some 44, .call ⟨.value (.tmp 41), #[.tmp 43], #[3]⟩, 3, "oil.go:153", #[⟨4, .data⟩, ⟨6, .data⟩], none⟩) rfl (fun K hK => ?_) AllReadyH.nil)
          go_simp
          with_reducible refine HCON.out.mono ?_
          rintro e w6 ⟨rfl, hb6⟩
          have hb6' : Below wr.heap.size wr w6 := (Below.refl _ wr).drew.trans hb6
          go_wp2_with fail
          refine hK.out _ _ (⟨cell_later hb6' y6, cell_later hb6' u0⟩) (fun hS1 => ?_)
          clear hS0 hK K
          refine tkH 8 ⟨some 45, .binOp .leq 3 (.tmp 37) (.tmp 44) 3, 4, "oil.go:153", #[⟨0, .data⟩, ⟨7, .data⟩], none⟩ (v := ?_) hS1 ?_ ?_
          rotate_left
          · intro X ⟨x0, x1⟩; go_simp; try with_reducible rfl
          simp only [Act.put, List.setIfInBounds_toArray, List.set_cons_zero, List.set_cons_succ, Array.toArray_toList]
          refine wpAnyH_done (by kernel_rfl) ?_ _
          clear hS1
          have HE6 := Lib.hid (HE5.out.keep hb6')
          have HM6 := Lib.hid (HM5.out.of_block (hb6'.block _ HM5.out.lt))
          have HK6 := Lib.hid (HMK.out.trans (MK.of_below hb6'))
          have HN6 := Lib.hid ((hb6'.block _ (Array.getElem?_eq_some_iff.1 HN5.out).1).trans HN5.out)
          replace u0 := cell_later hb6' u0
          replace u1 := cell_later hb6' u1
          replace y6 := cell_later hb6' y6
          replace y7 := cell_later hb6' y7
          replace y9 := cell_later hb6' y9
          have ls6 := hb6'.size
          clear hb6 hb6' HE5 HM5 HMK HN5 HCON
          go_wp2_with fail
          obtain ⟨w7, hrun, hM7, honly⟩ := (HM6.out.of_block (w' := w6.drew) rfl).run_mapUpdate HKEY.out bb
          unfold spotV at hrun
          have hmk7 : MK Bk w6 w7 := (MK.of_below ((Below.refl _ w6).drew)).trans honly.mk'
          have HM7 := Lib.hid hM7
          have HK7 := Lib.hid ((MK.of_below HB4.out).trans (HK6.out.trans hmk7))
          have hmm : Memo s J (updS m' i o bb) := by rw [← HBEST.out]; exact HMM5.out.upd HIR.out o
          have hfin : CPost s J Bk (r + 1) i o W (.returned (.int .i64 bb)) w7 := ⟨by rw [HBEST.out], HK7.out, _, HM7.out, hmm⟩
          have HFIN := Lib.hid hfin
          have f0 := hmk7.cell y9 nwk
          have f1 := hmk7.cell u0 ntk
          have f2 := hmk7.cell u1 ntk
          clear hM7 honly hmk7 hmm hfin y6 y7
          refine wp_region_held_drew (S := fun X => X.cell? ⟨Bw, 9, none⟩ = some (.map (some Bk)) ∧ X.cell? ⟨Bt, 0, none⟩ = some (.int .i64 (i : Int)) ∧ X.cell? ⟨Bt, 1, none⟩ = some (.int .i64 o)) (by kernel_rfl) (⟨y9, u0, u1⟩) (fun hS0 => ?_)
          refine tkH 0 ⟨some 71, .move (.tmp 0), 126, "oil.go:158", #[], none⟩ (v := ?_) hS0 ?_ ?_
          rotate_left
          · intro X ⟨x0, x1, x2⟩; go_simp; try with_reducible rfl
          simp only [Act.put, List.setIfInBounds_toArray, List.set_cons_zero, List.set_cons_succ, Array.toArray_toList]
          refine tkH 1 ⟨some 72, .nilCheck (.tmp 71), 0, "oil.go:158", #[⟨0, .data⟩], none⟩ (v := ?_) hS0 ?_ ?_
          rotate_left
          · intro X ⟨x0, x1, x2⟩; go_simp; try with_reducible rfl
          simp only [Act.put, List.setIfInBounds_toArray, List.set_cons_zero, List.set_cons_succ, Array.toArray_toList]
          refine tkH 2 ⟨some 73, .fieldAddr 131 (.tmp 72) 5, 0, "oil.go:158", #[⟨1, .data⟩], none⟩ (v := ?_) hS0 ?_ ?_
          rotate_left
          · intro X ⟨x0, x1, x2⟩; go_simp; try with_reducible rfl
          simp only [Act.put, List.setIfInBounds_toArray, List.set_cons_zero, List.set_cons_succ, Array.toArray_toList]
          refine tkH 3 ⟨some 74, .load 127 (.tmp 73), 127, "oil.go:158", #[⟨2, .data⟩], none⟩ (v := ?_) hS0 ?_ ?_
          rotate_left
          · intro X ⟨x0, x1, x2⟩; go_simp; try with_reducible rfl
          simp only [Act.put, List.setIfInBounds_toArray, List.set_cons_zero, List.set_cons_succ, Array.toArray_toList]
          refine tkH 4 ⟨some 75, .load 155 (.tmp 3), 155, "oil.go:158", #[], none⟩ (v := ?_) hS0 ?_ ?_
          rotate_left
          · intro X ⟨x0, x1, x2⟩; go_simp; try with_reducible rfl
          simp only [Act.put, List.setIfInBounds_toArray, List.set_cons_zero, List.set_cons_succ, Array.toArray_toList]
          refine tkH 5 ⟨some 76, .move (.tmp 5), 3, "oil.go:158", #[], none⟩ (v := ?_) hS0 ?_ ?_
          rotate_left
          · intro X ⟨x0, x1, x2⟩; go_simp; try with_reducible rfl
          simp only [Act.put, List.setIfInBounds_toArray, List.set_cons_zero, List.set_cons_succ, Array.toArray_toList]
          refine wpAnyH_ready (rs := [6]) (by kernel_rfl) (by simp) (AllReadyH.cons (o := ⟨none, .mapUpdate 127 (.tmp 74) (.tmp 75) (.tmp 76), 0, "oil.go:158", #[⟨3, .data⟩, ⟨4, .data⟩, ⟨5, .data⟩, ⟨0, .phase⟩, ⟨1, .phase⟩, ⟨2, .phase⟩, ⟨3, .phase⟩, ⟨4, .phase⟩, ⟨5, .phase⟩], none⟩) rfl (fun K hK => ?_) AllReadyH.nil)
          go_simp
          refine hK.out _ _ (⟨f0, f1, f2⟩) (fun hS1 => ?_)
          clear hS0 hK K
          refine wpAnyH_done (by kernel_rfl) ?_ _
          clear hS1
          clear hrun y9 u0 u1 f0 f1 f2
          go_wp2_with fail
          go_ret
          exact HFIN.out
end Go.Proofs.Ytefhdcecbmgljaa

/-
  Store: the laws' copy of a store.
-/
import Derived.Test.YtefhdcecbmgljaaRefF
set_option linter.all false
namespace Go.Proofs.Ytefhdcecbmgljaa
open Go.RowKit Go.WalkArith

/-- Nights one behind the other. -/
def flatN (l : List Nt) : List Value := l.flatMap fun n => [.int .i64 n.h, .int .i64 n.a, .int .i64 n.b, .int .i64 n.lo, .int .i64 n.hi]
theorem flatN_len (l : List Nt) : (flatN l).length = l.length * 5 := by
  induction l with
  | nil => rfl
  | cons d l ih => simp only [flatN, List.flatMap_cons, List.length_append, List.length_cons, List.length_nil] at *; omega
theorem flatN_snoc (l : List Nt) (d : Nt) : flatN (l ++ [d]) = flatN l ++ [.int .i64 d.h, .int .i64 d.a, .int .i64 d.b, .int .i64 d.lo, .int .i64 d.hi] := by simp [flatN, List.flatMap_append]
theorem flatN_at {l : List Nt} {i : Nat} (h : i < l.length) : (flatN l)[i * 5]? = some (.int .i64 l[i].h) ∧ (flatN l)[i * 5 + 1]? = some (.int .i64 l[i].a) ∧ (flatN l)[i * 5 + 2]? = some (.int .i64 l[i].b) ∧ (flatN l)[i * 5 + 3]? = some (.int .i64 l[i].lo) ∧ (flatN l)[i * 5 + 4]? = some (.int .i64 l[i].hi) := by
  induction l generalizing i with
  | nil => cases h
  | cons d l ih =>
    cases i with
    | zero => exact ⟨rfl, rfl, rfl, rfl, rfl⟩
    | succ i =>
      have := ih (i := i) (by simpa using h)
      have e : ∀ j, (flatN (d :: l))[(i + 1) * 5 + j]? = (flatN l)[i * 5 + j]? := fun j => by
        show ([Value.int .i64 d.h, .int .i64 d.a, .int .i64 d.b, .int .i64 d.lo, .int .i64 d.hi] ++ flatN l)[(i + 1) * 5 + j]? = _
        rw [List.getElem?_append_right (by simp; omega)]
        congr 1
        simp; omega
      exact ⟨(e 0).trans this.1, (e 1).trans this.2.1, (e 2).trans this.2.2.1, (e 3).trans this.2.2.2.1, (e 4).trans this.2.2.2.2⟩
theorem NtsAt.of_own {W : World} {base t : Nat} {v : Value} {n : Nat} {l : List Nt} (h : W.ownsRow base t 5 v n (flatN l)) : ∃ A cap, v = .slice A l.length cap ∧ NtsAt W A l := by
  have hl : l.length = n := by have := h.1; rw [flatN_len] at this; omega
  subst hl
  rcases h.2 with ⟨rfl, h0⟩ | ⟨g, cap, cur, rfl, h1, h2, h3, h4, h5, h6⟩
  · have : l = [] := List.length_eq_zero_iff.1 h0
    subst this
    exact ⟨none, 0, rfl, .inl rfl⟩
  · refine ⟨_, cap, rfl, .inr ⟨g, 0, rfl, fun i hi => ?_⟩⟩
    have hc : ∀ k v, (flatN l)[k]? = some v → W.cell? ⟨g, k, none⟩ = some v := fun k v hk => by
      rw [← h6] at hk
      have hlt : k < l.length * 5 := by
        have := (List.getElem?_eq_some_iff.1 hk).1
        rw [List.length_take] at this
        omega
      rw [List.getElem?_take_of_lt hlt] at hk
      have : cur[k]? = some v := by simpa using hk
      simp [World.cell?, h2, this]
    obtain ⟨f0, f1, f2, f3, f4⟩ := flatN_at hi
    rw [Nat.zero_add]
    exact ⟨hc _ _ f0, hc _ _ f1, hc _ _ f2, hc _ _ f3, hc _ _ f4⟩

theorem Try.info105 : (Try.prog.info? 105).map (fun i => (i.zero, i.size, i.bytes)) = some (some (.agg #[.int .i64 0, .int .i64 0, .int .i64 0, .int .i64 0, .int .i64 0]), 5, 40) := by kernel_rfl
def SCRel (s : St) (A : Option Addr) (cp : Nat) (w : World) (Bi Br Bo : Nat) (i : Value) (wr : World) : Prop :=
  ∃ k : Nat, k ≤ s.ns.length ∧ i = .int .i64 k ∧ ∃ v, wr.heap[Bo]? = some (.cells #[.int .i64 s.cap, .int .i64 s.can, .int .i64 s.sl, .int .i64 s.sh, v] 39 (0, 0)) ∧ wr.heap[Br]? = some (.cells #[.int .i64 0, .int .i64 0, .int .i64 0, .int .i64 0, .slice none 0 0] 39 (0, 0)) ∧ wr.heap[Bi]? = some (.cells #[.int .i64 s.cap, .int .i64 s.can, .int .i64 s.sl, .int .i64 s.sh, .slice A s.ns.length cp] 26 (0, 0)) ∧ wr.ownsRow (Bo + 1) 105 5 v k (flatN (s.ns.take k)) ∧ Below w.heap.size w wr
theorem set_slot4 {w : World} {B t : Nat} {x0 x1 x2 x3 x4 : Value} {fr : Nat × Nat} (h : w.heap[B]? = some (.cells #[x0, x1, x2, x3, x4] t fr)) (x' : Value) :
    (w.setCell ⟨B, 4, none⟩ x').heap[B]? = some (.cells #[x0, x1, x2, x3, x'] t fr) := by
  obtain ⟨hlt, hg⟩ := Array.getElem?_eq_some_iff.1 h
  simp [World.setCell, hlt, Array.getElem_modify, hg]
theorem set_five {w : World} {B t : Nat} {x0 x1 x2 x3 x4 : Value} {fr : Nat × Nat} (h : w.heap[B]? = some (.cells #[x0, x1, x2, x3, x4] t fr)) (y0 y1 y2 y3 y4 : Value) :
    (((((w.setCell ⟨B, 0, none⟩ y0).setCell ⟨B, 1, none⟩ y1).setCell ⟨B, 2, none⟩ y2).setCell ⟨B, 3, none⟩ y3).setCell ⟨B, 4, none⟩ y4).heap[B]? = some (.cells #[y0, y1, y2, y3, y4] t fr) := by
  obtain ⟨hlt, hg⟩ := Array.getElem?_eq_some_iff.1 h
  simp [World.setCell, hlt, Array.getElem_modify, hg]
def StorePost (s : St) (w : World) (e : Ending) (w' : World) : Prop := ∃ A cap, e = .returned (.agg #[.int .i64 s.cap, .int .i64 s.can, .int .i64 s.sl, .int .i64 s.sh, .slice A s.ns.length cap]) ∧ NtsAt w' A s.ns ∧ Below w.heap.size w w'

set_option maxRecDepth 100000 in
set_option maxHeartbeats 4000000 in
theorem store_conv (s : St) (A : Option Addr) (cp : Nat) (w : World) (hA : NtsAt w A s.ns) (hn : s.ns.length ≤ 1000000) :
    Calls Try.prog 19 #[.agg #[.int .i64 s.cap, .int .i64 s.can, .int .i64 s.sl, .int .i64 s.sh, .slice A s.ns.length cp]] w (StorePost s w) := by
  obtain ⟨i0, hi0', hz0', hz1', hz2'⟩ := info_parts Try.info105
  have hi0 := Lib.hid hi0'
  have hz0 := Lib.hid hz0'
  have hz1 := Lib.hid hz1'
  have hz2 := Lib.hid hz2'
  clear hi0' hz0' hz1' hz2'
  have hB : Below w.heap.size w ((w.alloc (.cells #[.int .i64 s.cap, .int .i64 s.can, .int .i64 s.sl, .int .i64 s.sh, .slice A s.ns.length cp] 26)).alloc (.cells #[.int .i64 0, .int .i64 0, .int .i64 0, .int .i64 0, .slice none 0 0] 39)) := ((Below.refl _ _).alloc (Nat.le_refl _) _).alloc (by simp) _
  have hn0 : ((w.alloc (.cells #[.int .i64 s.cap, .int .i64 s.can, .int .i64 s.sl, .int .i64 s.sh, .slice A s.ns.length cp] 26)).alloc (.cells #[.int .i64 0, .int .i64 0, .int .i64 0, .int .i64 0, .slice none 0 0] 39)).heap[w.heap.size]? = some (.cells #[.int .i64 s.cap, .int .i64 s.can, .int .i64 s.sl, .int .i64 s.sh, .slice A s.ns.length cp] 26 (0, 0)) := (Below.heap_alloc _ _ _ (by simp)).trans (heap_new_at _ _ _ rfl)
  have hu0 := heap_alloc2 w (.cells #[.int .i64 s.cap, .int .i64 s.can, .int .i64 s.sl, .int .i64 s.sh, .slice A s.ns.length cp] 26) (.cells #[.int .i64 0, .int .i64 0, .int .i64 0, .int .i64 0, .slice none 0 0] 39)
  go_enter Try.func19, Try.ntmps19
  go_wp2_with fail
  generalize (w.alloc (.cells #[.int .i64 s.cap, .int .i64 s.can, .int .i64 s.sl, .int .i64 s.sh, .slice A s.ns.length cp] 26)).alloc (.cells #[.int .i64 0, .int .i64 0, .int .i64 0, .int .i64 0, .slice none 0 0] 39) = w1 at hB hn0 hu0 ⊢
  obtain ⟨Bi, hBi⟩ : ∃ Bi, w.heap.size = Bi := ⟨_, rfl⟩
  obtain ⟨Br, hBr⟩ : ∃ Br, w.heap.size + 1 = Br := ⟨_, rfl⟩
  have o1 : w.heap.size ≤ Br := by omega
  have o2 : Bi < Br := by omega
  have o3 : w.heap.size ≤ Bi := by omega
  rw [hBr] at hu0 ⊢
  rw [hBi] at hn0 ⊢
  clear hBi hBr
  have lr := (Array.getElem?_eq_some_iff.1 hu0).1
  have hS : ∀ X, Below w1.heap.size w1 X → X.cell? ⟨Bi, 0, none⟩ = some (.int .i64 s.cap) ∧ X.cell? ⟨Bi, 1, none⟩ = some (.int .i64 s.can) ∧ X.cell? ⟨Bi, 2, none⟩ = some (.int .i64 s.sl) ∧ X.cell? ⟨Bi, 3, none⟩ = some (.int .i64 s.sh) := fun X hX => by
    have h := (hX.block Bi (by omega)).trans hn0
    exact ⟨by simp [World.cell?, h], by simp [World.cell?, h], by simp [World.cell?, h], by simp [World.cell?, h]⟩
  obtain ⟨x0, x1, x2, x3⟩ := hS _ (Below.refl _ _)
  have HS := Lib.hid hS
  have HB := Lib.hid hB
  have HN := Lib.hid hn0
  have HU := Lib.hid hu0
  have HA := Lib.hid hA
  clear hB hn0 hu0 hA hS
  refine wp_region_held_drew (S := fun X => X.cell? ⟨Bi, 0, none⟩ = some (.int .i64 s.cap) ∧ X.cell? ⟨Bi, 1, none⟩ = some (.int .i64 s.can) ∧ X.cell? ⟨Bi, 2, none⟩ = some (.int .i64 s.sl) ∧ X.cell? ⟨Bi, 3, none⟩ = some (.int .i64 s.sh)) (by kernel_rfl) (⟨x0, x1, x2, x3⟩) (fun hS0 => ?_)
  refine tkH 0 ⟨some 6, .fieldAddr 26 (.tmp 1) 0, 0, "law.go:17", #[], none⟩ (v := ?_) hS0 ?_ ?_
  rotate_left
  · intro X ⟨x0, x1, x2, x3⟩; go_simp; try with_reducible rfl
  simp only [Act.put, List.setIfInBounds_toArray, List.set_cons_zero, List.set_cons_succ, Array.toArray_toList]
  refine tkH 1 ⟨some 7, .load 3 (.tmp 6), 3, "law.go:17", #[⟨0, .data⟩], none⟩ (v := ?_) hS0 ?_ ?_
  rotate_left
  · intro X ⟨x0, x1, x2, x3⟩; go_simp; try with_reducible rfl
  simp only [Act.put, List.setIfInBounds_toArray, List.set_cons_zero, List.set_cons_succ, Array.toArray_toList]
  refine tkH 2 ⟨some 8, .fieldAddr 26 (.tmp 1) 1, 0, "law.go:17", #[], none⟩ (v := ?_) hS0 ?_ ?_
  rotate_left
  · intro X ⟨x0, x1, x2, x3⟩; go_simp; try with_reducible rfl
  simp only [Act.put, List.setIfInBounds_toArray, List.set_cons_zero, List.set_cons_succ, Array.toArray_toList]
  refine tkH 3 ⟨some 9, .load 3 (.tmp 8), 3, "law.go:17", #[⟨2, .data⟩], none⟩ (v := ?_) hS0 ?_ ?_
  rotate_left
  · intro X ⟨x0, x1, x2, x3⟩; go_simp; try with_reducible rfl
  simp only [Act.put, List.setIfInBounds_toArray, List.set_cons_zero, List.set_cons_succ, Array.toArray_toList]
  refine tkH 4 ⟨some 10, .fieldAddr 26 (.tmp 1) 2, 0, "law.go:17", #[], none⟩ (v := ?_) hS0 ?_ ?_
  rotate_left
  · intro X ⟨x0, x1, x2, x3⟩; go_simp; try with_reducible rfl
  simp only [Act.put, List.setIfInBounds_toArray, List.set_cons_zero, List.set_cons_succ, Array.toArray_toList]
  refine tkH 5 ⟨some 11, .load 23 (.tmp 10), 23, "law.go:17", #[⟨4, .data⟩], none⟩ (v := ?_) hS0 ?_ ?_
  rotate_left
  · intro X ⟨x0, x1, x2, x3⟩; go_simp; try with_reducible rfl
  simp only [Act.put, List.setIfInBounds_toArray, List.set_cons_zero, List.set_cons_succ, Array.toArray_toList]
  refine wpAnyH_ready (rs := [6, 8]) (by kernel_rfl) (by simp) (AllReadyH.cons (o := ⟨some 12, .call ⟨.value (.func 54), #[.tmp 11], #[23]⟩, 36, "law.go:17", #[⟨5, .data⟩], none⟩) rfl (fun K hK => ?_) (AllReadyH.cons (o := ⟨some 3, .alloc 39, 0, "law.go:17", #[], none⟩) rfl (fun K hK => ?_) AllReadyH.nil))
  · skip
    go_simp
    refine (conv_any s.sl s.sh w1.drew).mono ?_
    rintro e w2 ⟨rfl, hb2⟩
    have hb2' : Below w1.heap.size w1 w2 := (Below.refl _ w1).drew.trans hb2
    have HB2 := Lib.hid hb2'
    have hq2 := hb2'.size
    clear hb2 hb2'
    go_wp2_with fail
    refine hK.out _ _ ((HS.out _ HB2.out)) (fun hS1 => ?_)
    clear hS0 hK K
    refine tkH 7 ⟨some 13, .build 39 #[(0, .tmp 7), (1, .tmp 9), (2, .tmp 12)], 39, "law.go:17", #[⟨1, .data⟩, ⟨3, .data⟩, ⟨6, .data⟩], none⟩ (v := ?_) hS1 ?_ ?_
    rotate_left
    · intro X ⟨x0, x1, x2, x3⟩; go_simp; try with_reducible rfl
    simp only [Act.put, List.setIfInBounds_toArray, List.set_cons_zero, List.set_cons_succ, Array.toArray_toList]
    refine wpAnyH_ready (rs := [8]) (by kernel_rfl) (by simp) (AllReadyH.cons (o := ⟨some 3, .alloc 39, 0, "law.go:17", #[], none⟩) rfl (fun K hK => ?_) AllReadyH.nil)
    go_simp
    have hbq : Below w1.heap.size w1 (w2.alloc (.cells #[.int .i64 0, .int .i64 0, .int .i64 0, .int .i64 0, .slice none 0 0] 39)) := HB2.out.alloc hq2 _
    have HBQ := Lib.hid hbq
    have HNQ := Lib.hid (Go.heap_alloc_new w2 (.cells #[.int .i64 0, .int .i64 0, .int .i64 0, .int .i64 0, .slice none 0 0] 39))
    refine hK.out _ _ ((HS.out _ hbq)) (fun hS2 => ?_)
    clear hS1 hK K
    obtain ⟨Bo, hBo⟩ : ∃ Bo, w2.heap.size = Bo := ⟨_, rfl⟩
    rw [hBo] at HNQ ⊢
    have o4 : Br < Bo := by omega
    have o5 : w1.heap.size ≤ Bo := by omega
    generalize w2.alloc (.cells #[.int .i64 0, .int .i64 0, .int .i64 0, .int .i64 0, .slice none 0 0] 39) = w3 at HBQ HNQ hbq ⊢
    refine wpAnyH_ready (rs := [9]) (by kernel_rfl) (by simp) (AllReadyH.cons (o := ⟨none, .store 39 (.tmp 3) (.tmp 13), 0, "law.go:17", #[⟨8, .data⟩, ⟨7, .data⟩, ⟨6, .chain⟩, ⟨0, .phase⟩, ⟨1, .phase⟩, ⟨2, .phase⟩, ⟨3, .phase⟩, ⟨4, .phase⟩, ⟨5, .phase⟩, ⟨6, .phase⟩, ⟨7, .phase⟩, ⟨8, .phase⟩], none⟩) rfl (fun K hK => ?_) AllReadyH.nil)
    go_simp
    have f0 : w3.frozen? ⟨Bo, 0, none⟩ = false := by simp [World.frozen?, HNQ.out]
    have f1 : w3.frozen? ⟨Bo, 1, none⟩ = false := by simp [World.frozen?, HNQ.out]
    have f2 : w3.frozen? ⟨Bo, 2, none⟩ = false := by simp [World.frozen?, HNQ.out]
    have f3 : w3.frozen? ⟨Bo, 3, none⟩ = false := by simp [World.frozen?, HNQ.out]
    have f4 : w3.frozen? ⟨Bo, 4, none⟩ = false := by simp [World.frozen?, HNQ.out]
    have g0 : w3.cell? ⟨Bo, 0, none⟩ = some (.int .i64 0) := by simp [World.cell?, HNQ.out]
    have g1 : w3.cell? ⟨Bo, 1, none⟩ = some (.int .i64 0) := by simp [World.cell?, HNQ.out]
    have g2 : w3.cell? ⟨Bo, 2, none⟩ = some (.int .i64 0) := by simp [World.cell?, HNQ.out]
    have g3 : w3.cell? ⟨Bo, 3, none⟩ = some (.int .i64 0) := by simp [World.cell?, HNQ.out]
    have g4 : w3.cell? ⟨Bo, 4, none⟩ = some (.slice none 0 0) := by simp [World.cell?, HNQ.out]
    go_simp
    have hoth : ∀ j, j ≠ Bo → (((((w3.setCell ⟨Bo, 0, none⟩ (.int .i64 s.cap)).setCell ⟨Bo, 1, none⟩ (.int .i64 s.can)).setCell ⟨Bo, 2, none⟩ (.int .i64 s.sl)).setCell ⟨Bo, 3, none⟩ (.int .i64 s.sh)).setCell ⟨Bo, 4, none⟩ (.slice none 0 0)).heap[j]? = w3.heap[j]? := fun j hj => (Below.heap_setCell _ _ _ _ hj).trans ((Below.heap_setCell _ _ _ _ hj).trans ((Below.heap_setCell _ _ _ _ hj).trans ((Below.heap_setCell _ _ _ _ hj).trans (Below.heap_setCell _ _ _ _ hj))))
    have hO4 := set_five HNQ.out (.int .i64 s.cap) (.int .i64 s.can) (.int .i64 s.sl) (.int .i64 s.sh) (.slice none 0 0)
    have hB4 : Below w1.heap.size w1 (((((w3.setCell ⟨Bo, 0, none⟩ (.int .i64 s.cap)).setCell ⟨Bo, 1, none⟩ (.int .i64 s.can)).setCell ⟨Bo, 2, none⟩ (.int .i64 s.sl)).setCell ⟨Bo, 3, none⟩ (.int .i64 s.sh)).setCell ⟨Bo, 4, none⟩ (.slice none 0 0)) := ((((HBQ.out.setCell o5 _).setCell o5 _).setCell o5 _).setCell o5 _).setCell o5 _
    generalize (((((w3.setCell ⟨Bo, 0, none⟩ (.int .i64 s.cap)).setCell ⟨Bo, 1, none⟩ (.int .i64 s.can)).setCell ⟨Bo, 2, none⟩ (.int .i64 s.sl)).setCell ⟨Bo, 3, none⟩ (.int .i64 s.sh)).setCell ⟨Bo, 4, none⟩ (.slice none 0 0)) = w4 at hoth hO4 hB4 ⊢
    have HO4 := Lib.hid hO4
    have HR4 := Lib.hid ((hB4.block Br (by omega)).trans HU.out)
    have HI4 := Lib.hid ((hB4.block Bi (by omega)).trans HN.out)
    have HB4 := Lib.hid (HB.out.trans (hB4.mono HB.out.size))
    clear f0 f1 f2 f3 f4 g0 g1 g2 g3 g4 x0 x1 x2 x3 hoth hO4
    refine hK.out _ _ ((HS.out _ hB4)) (fun hS3 => ?_)
    clear hS2 hK K
    refine wpAnyH_done (by kernel_rfl) ?_ _
    clear hS3
    go_wp2_with fail
    go_loopw [4] (SCRel s A cp w Bi Br Bo) (fun i _ => s.ns.length - (intOf i).toNat)
    case atStart => exact ⟨0, by omega, rfl, _, HO4.out, HR4.out, HI4.out, World.ownsRow_nil _ _ _ _, HB4.out⟩
    case round =>
      clear HO4 HR4 HI4 HB4
      obtain ⟨k, hk, rfl, v, hO, hR, hI, hown, hBe⟩ := hrel
      have x4 : wr.cell? ⟨Bi, 4, none⟩ = some (.slice A s.ns.length cp) := by simp [World.cell?, hI]
      by_cases hlt : k < s.ns.length
      · have hlt' : decide ((k : Int) < (s.ns.length : Int)) = true := by simpa using hlt
        obtain ⟨b, o, rfl, a0, a1, a2, a3, a4⟩ := (HA.out.keep hBe (Nat.le_refl _)).at hlt
        obtain ⟨n, hnk⟩ : ∃ n, s.ns[k] = n := ⟨_, rfl⟩
        rw [hnk] at a0 a1 a2 a3 a4
        have htk : s.ns.take (k + 1) = s.ns.take k ++ [n] := by rw [List.take_succ_eq_append_getElem hlt, hnk]
        obtain ⟨⟨nh, na, nb, nlo, nhi⟩, hne⟩ : ∃ N, n = N := ⟨_, rfl⟩
        subst hne
        dsimp only at a0 a1 a2 a3 a4
        have HTK := Lib.hid htk
        obtain ⟨Av, capv, rfl⟩ : ∃ Av capv, v = .slice Av k capv := own_slice hown
        have lO : Bo < wr.heap.size := (Array.getElem?_eq_some_iff.1 hO).1
        have i1 : (0 : Int) ≤ (k : Int) := by omega
        have i2 : (k : Int) < (s.ns.length : Int) := by omega
        have hbn : Below wr.heap.size wr (wr.alloc (.cells #[.int .i64 nh, .int .i64 na, .int .i64 nb, .int .i64 nlo, .int .i64 nhi] 80)) := (Below.refl _ _).alloc (Nat.le_refl _) _
        have HNn' := Go.heap_alloc_new wr (.cells #[.int .i64 nh, .int .i64 na, .int .i64 nb, .int .i64 nlo, .int .i64 nhi] 80)
        have hln : (wr.alloc (.cells #[.int .i64 nh, .int .i64 na, .int .i64 nb, .int .i64 nlo, .int .i64 nhi] 80)).heap.size = wr.heap.size + 1 := by simp
        have hHBn := hBe.trans (hbn.mono hBe.size)
        have hO' := (hbn.block Bo lO).trans hO
        have hR' := (hbn.block Br (by omega)).trans hR
        have hI' := (hbn.block Bi (by omega)).trans hI
        have how' := hown.kept (Go_grown_of_below hbn) (own_none _)
        have HOWR := Lib.hid hown
        have hwrs := hBe.size
        clear htk hnk hO hR hI hown hBe hbn
        go_wp2_with fail
        clear a0 a1 a2 a3 a4 x4
        generalize wr.alloc (.cells #[.int .i64 nh, .int .i64 na, .int .i64 nb, .int .i64 nlo, .int .i64 nhi] 80) = wn at HNn' hln hHBn hO' hR' hI' how' ⊢
        obtain ⟨Bn, hBn⟩ : ∃ Bn, wr.heap.size = Bn := ⟨_, rfl⟩
        rw [hBn] at HNn' ⊢
        have hSN : ∀ X, Below wn.heap.size wn X → X.cell? ⟨Bn, 0, none⟩ = some (.int .i64 nh) ∧ X.cell? ⟨Bn, 1, none⟩ = some (.int .i64 na) ∧ X.cell? ⟨Bn, 2, none⟩ = some (.int .i64 nb) ∧ X.cell? ⟨Bn, 3, none⟩ = some (.int .i64 nlo) ∧ X.cell? ⟨Bn, 4, none⟩ = some (.int .i64 nhi) := fun X hX => by
          have h := (hX.block Bn (by omega)).trans HNn'
          simp [World.cell?, h]
        obtain ⟨c0, c1, c2, c3, c4⟩ := hSN _ (Below.refl _ _)
        have p4 : wn.cell? ⟨Bo, 4, none⟩ = some (.slice Av k capv) := by simp [World.cell?, hO']
        have p4d : wn.drew.cell? ⟨Bo, 4, none⟩ = some (.slice Av k capv) := p4
        have HSN := Lib.hid hSN
        have HNn := Lib.hid HNn'
        have HBn := Lib.hid hHBn
        have HO := Lib.hid hO'
        have HRn := Lib.hid hR'
        have HIn := Lib.hid hI'
        have HOW := Lib.hid (show wn.ownsRow (Bo + 1) 105 5 (.slice Av k capv) k (flatN (s.ns.take k)) from how')
        have hown2 : ∀ r, (Value.slice Av k capv).ownBlock = some r → r < wr.heap.size := fun r hr => (HOWR.out.lt r hr).2
        clear hSN HNn' hHBn hO' hR' hI' how' HOWR
        refine wp_region_held_drew (S := fun X => X.cell? ⟨Bn, 0, none⟩ = some (.int .i64 nh) ∧ X.cell? ⟨Bn, 1, none⟩ = some (.int .i64 na) ∧ X.cell? ⟨Bn, 2, none⟩ = some (.int .i64 nb) ∧ X.cell? ⟨Bn, 3, none⟩ = some (.int .i64 nlo) ∧ X.cell? ⟨Bn, 4, none⟩ = some (.int .i64 nhi)) (by kernel_rfl) (⟨c0, c1, c2, c3, c4⟩) (fun hS0 => ?_)
        refine tkH 0 ⟨some 26, .fieldAddr 39 (.tmp 3) 3, 0, "law.go:20", #[], none⟩ (v := ?_) hS0 ?_ ?_
        rotate_left
        · intro X ⟨x0, x1, x2, x3, x4⟩; go_simp; try with_reducible rfl
        simp only [Act.put, List.setIfInBounds_toArray, List.set_cons_zero, List.set_cons_succ, Array.toArray_toList]
        refine tkH 2 ⟨some 28, .fieldAddr 80 (.tmp 5) 0, 0, "law.go:20", #[], none⟩ (v := ?_) hS0 ?_ ?_
        rotate_left
        · intro X ⟨x0, x1, x2, x3, x4⟩; go_simp; try with_reducible rfl
        simp only [Act.put, List.setIfInBounds_toArray, List.set_cons_zero, List.set_cons_succ, Array.toArray_toList]
        refine tkH 3 ⟨some 29, .load 3 (.tmp 28), 3, "law.go:20", #[⟨2, .data⟩], none⟩ (v := ?_) hS0 ?_ ?_
        rotate_left
        · intro X ⟨x0, x1, x2, x3, x4⟩; go_simp; try with_reducible rfl
        simp only [Act.put, List.setIfInBounds_toArray, List.set_cons_zero, List.set_cons_succ, Array.toArray_toList]
        refine tkH 4 ⟨some 30, .fieldAddr 80 (.tmp 5) 1, 0, "law.go:20", #[], none⟩ (v := ?_) hS0 ?_ ?_
        rotate_left
        · intro X ⟨x0, x1, x2, x3, x4⟩; go_simp; try with_reducible rfl
        simp only [Act.put, List.setIfInBounds_toArray, List.set_cons_zero, List.set_cons_succ, Array.toArray_toList]
        refine tkH 5 ⟨some 31, .load 3 (.tmp 30), 3, "law.go:20", #[⟨4, .data⟩], none⟩ (v := ?_) hS0 ?_ ?_
        rotate_left
        · intro X ⟨x0, x1, x2, x3, x4⟩; go_simp; try with_reducible rfl
        simp only [Act.put, List.setIfInBounds_toArray, List.set_cons_zero, List.set_cons_succ, Array.toArray_toList]
        refine tkH 6 ⟨some 32, .fieldAddr 80 (.tmp 5) 2, 0, "law.go:20", #[], none⟩ (v := ?_) hS0 ?_ ?_
        rotate_left
        · intro X ⟨x0, x1, x2, x3, x4⟩; go_simp; try with_reducible rfl
        simp only [Act.put, List.setIfInBounds_toArray, List.set_cons_zero, List.set_cons_succ, Array.toArray_toList]
        refine tkH 7 ⟨some 33, .load 3 (.tmp 32), 3, "law.go:20", #[⟨6, .data⟩], none⟩ (v := ?_) hS0 ?_ ?_
        rotate_left
        · intro X ⟨x0, x1, x2, x3, x4⟩; go_simp; try with_reducible rfl
        simp only [Act.put, List.setIfInBounds_toArray, List.set_cons_zero, List.set_cons_succ, Array.toArray_toList]
        refine tkH 8 ⟨some 34, .fieldAddr 80 (.tmp 5) 3, 0, "law.go:20", #[], none⟩ (v := ?_) hS0 ?_ ?_
        rotate_left
        · intro X ⟨x0, x1, x2, x3, x4⟩; go_simp; try with_reducible rfl
        simp only [Act.put, List.setIfInBounds_toArray, List.set_cons_zero, List.set_cons_succ, Array.toArray_toList]
        refine tkH 9 ⟨some 35, .load 23 (.tmp 34), 23, "law.go:20", #[⟨8, .data⟩], none⟩ (v := ?_) hS0 ?_ ?_
        rotate_left
        · intro X ⟨x0, x1, x2, x3, x4⟩; go_simp; try with_reducible rfl
        simp only [Act.put, List.setIfInBounds_toArray, List.set_cons_zero, List.set_cons_succ, Array.toArray_toList]
        refine wpAnyH_ready (rs := [1, 10]) (by kernel_rfl) (by simp) (AllReadyH.cons (o := ⟨some 27, .load 37 (.tmp 26), 37, "law.go:20", #[⟨0, .data⟩], none⟩) rfl (fun K hK => ?_) (AllReadyH.cons (o := ⟨some 36, .call ⟨.value (.func 54), #[.tmp 35], #[23]⟩, 36, "law.go:20", #[⟨9, .data⟩], none⟩) rfl (fun K hK => ?_) AllReadyH.nil))
        · skip
          go_simp
          refine hK.out _ _ (hS0) (fun hS1 => ?_)
          clear hS0 hK K
          refine wpAnyH_ready (rs := [10]) (by kernel_rfl) (by simp) (AllReadyH.cons (o := ⟨some 36, .call ⟨.value (.func 54), #[.tmp 35], #[23]⟩, 36, "law.go:20", #[⟨9, .data⟩], none⟩) rfl (fun K hK => ?_) AllReadyH.nil)
          go_simp
          refine (conv_any nlo nhi wn.drew).mono ?_
          rintro e w5 ⟨rfl, hb5⟩
          have hb5' : Below wn.heap.size wn w5 := (Below.refl _ wn).drew.trans hb5
          have HB5 := Lib.hid hb5'
          have hq5 := hb5'.size
          have hO5 := (hb5'.block Bo (by omega)).trans HO.out
          have q4 : w5.cell? ⟨Bo, 4, none⟩ = some (.slice Av k capv) := by simp [World.cell?, hO5]
          have HO5 := Lib.hid hO5
          have HOW5 := Lib.hid (HOW.out.kept (Go_grown_of_below hb5') (own_none _))
          clear hb5 hb5' hO5
          go_wp2_with fail
          refine hK.out _ _ ((HSN.out _ HB5.out)) (fun hS2 => ?_)
          clear hS1 hK K
          refine tkH 11 ⟨some 37, .build 105 #[(0, .tmp 29), (1, .tmp 31), (2, .tmp 33), (3, .tmp 36)], 105, "law.go:20", #[⟨3, .data⟩, ⟨5, .data⟩, ⟨7, .data⟩, ⟨10, .data⟩], none⟩ (v := ?_) hS2 ?_ ?_
          rotate_left
          · intro X ⟨x0, x1, x2, x3, x4⟩; go_simp; try with_reducible rfl
          simp only [Act.put, List.setIfInBounds_toArray, List.set_cons_zero, List.set_cons_succ, Array.toArray_toList]
          refine wpAnyH_ready (rs := [12]) (by kernel_rfl) (by simp) (AllReadyH.cons (o := ⟨some 38, .buildSlice 37 1 #[(0, .tmp 37)], 37, "law.go:20", #[⟨11, .data⟩], none⟩) rfl (fun K hK => ?_) AllReadyH.nil)
          go_simp
          have hb6 : Below wn.heap.size wn (w5.alloc (.cells #[.int .i64 nh, .int .i64 na, .int .i64 nb, .int .i64 nlo, .int .i64 nhi] 105)) := HB5.out.alloc hq5 _
          have r4 : (w5.alloc (.cells #[.int .i64 nh, .int .i64 na, .int .i64 nb, .int .i64 nlo, .int .i64 nhi] 105)).cell? ⟨Bo, 4, none⟩ = some (.slice Av k capv) := (World.cell?_alloc_lt _ _ _ (World.block_lt_of_cell? w5 _ q4)).trans q4
          have HB6 := Lib.hid hb6
          clear hb6
          refine hK.out _ _ ((HSN.out _ HB6.out)) (fun hS3 => ?_)
          clear hS2 hK K
          refine wpAnyH_ready (rs := [13]) (by kernel_rfl) (by simp) (AllReadyH.cons (o := ⟨some 39, .call ⟨.builtin .append, #[.tmp 27, .tmp 38], #[37, 37]⟩, 37, "law.go:20", #[⟨1, .data⟩, ⟨12, .data⟩, ⟨10, .chain⟩], none⟩) rfl (fun K hK => ?_) AllReadyH.nil)
          refine step_append_lies _ (by rfl) _ _ _ (by rfl) (Bo + 1) 105 i0 _ 5 40 Try.underlying37 hi0.out hz0.out hz1.out hz2.out rfl (by omega) _ k _ (by rfl) (HOW5.out.alloc _) ⟨w5.heap.size, 0, none⟩ 1 1 [.int .i64 nh, .int .i64 na, .int .i64 nb, .int .i64 nlo, .int .i64 nhi] (by rfl) (by rfl) (World.news_of_block (cs := #[.int .i64 nh, .int .i64 na, .int .i64 nb, .int .i64 nlo, .int .i64 nhi]) (t := 105) (fr := (0, 0)) (Go.heap_alloc_new w5 _)) (by simp [Value.oneCell']) (by omega) (by unfold maxLen; omega) (by omega) (by simp; omega) (w5.heap.size + 1) (by simp) ?_
          intro gg cap' w7 hown7 hgrow hat hlt7
          have hblk : ∀ j, j < w5.heap.size → (j ≤ Bo ∨ wr.heap.size ≤ j) → w7.heap[j]? = w5.heap[j]? := fun j hj h => (hgrow.block j (by simp; omega) (fun e => by have h1 := HOW.out.lt j e.symm; have h2 := hown2 j e.symm; omega)).trans (Below.heap_alloc _ _ _ (by omega))
          have hO7 := (hblk Bo (by omega) (.inl (Nat.le_refl _))).trans HO5.out
          have s4 : w7.cell? ⟨Bo, 4, none⟩ = some (.slice Av k capv) := by simp [World.cell?, hO7]
          have sz : w7.frozen? ⟨Bo, 4, none⟩ = false := by simp [World.frozen?, hO7]
          have HO7 := Lib.hid hO7
          have HR7 := Lib.hid ((hblk Br (by omega) (.inl (by omega))).trans ((HB5.out.block Br (by omega)).trans HRn.out))
          have HI7 := Lib.hid ((hblk Bi (by omega) (.inl (by omega))).trans ((HB5.out.block Bi (by omega)).trans HIn.out))
          have hn7 := (hblk Bn (by omega) (.inr (by omega))).trans ((HB5.out.block Bn (by omega)).trans HNn.out)
          have HOW7 := Lib.hid (show w7.ownsRow (Bo + 1) 105 5 (.slice (some ⟨gg, 0, none⟩) (k + 1) cap') (k + 1) (flatN (s.ns.take (k + 1))) by rw [HTK.out, flatN_snoc]; exact hown7)
          have HB7 := Lib.hid (show Below w.heap.size w w7 from (HBn.out.trans ((HB6.out).mono HBn.out.size)).trans (below_of_grown hgrow (HOW5.out.alloc _) (by omega) (by simp; omega)))
          clear hown7 hgrow hat hlt7 hO7 hblk
          have hSs : w7.cell? ⟨Bn, 0, none⟩ = some (.int .i64 nh) ∧ w7.cell? ⟨Bn, 1, none⟩ = some (.int .i64 na) ∧ w7.cell? ⟨Bn, 2, none⟩ = some (.int .i64 nb) ∧ w7.cell? ⟨Bn, 3, none⟩ = some (.int .i64 nlo) ∧ w7.cell? ⟨Bn, 4, none⟩ = some (.int .i64 nhi) := by simp [World.cell?, hn7]
          refine hK.out _ _ (hSs) (fun hS4 => ?_)
          clear hS3 hK K
          simp only [Act.put, List.setIfInBounds_toArray, List.set_cons_zero, List.set_cons_succ, Array.toArray_toList]
          refine tkH 14 ⟨some 40, .fieldAddr 39 (.tmp 3) 3, 0, "law.go:20", #[⟨0, .phase⟩, ⟨1, .phase⟩, ⟨2, .phase⟩, ⟨3, .phase⟩, ⟨4, .phase⟩, ⟨5, .phase⟩, ⟨6, .phase⟩, ⟨7, .phase⟩, ⟨8, .phase⟩, ⟨9, .phase⟩, ⟨10, .phase⟩, ⟨11, .phase⟩, ⟨12, .phase⟩, ⟨13, .phase⟩], none⟩ (v := ?_) hS4 ?_ ?_
          rotate_left
          · intro X ⟨x0, x1, x2, x3, x4⟩; go_simp; try with_reducible rfl
          simp only [Act.put, List.setIfInBounds_toArray, List.set_cons_zero, List.set_cons_succ, Array.toArray_toList]
          refine wpAnyH_ready (rs := [15]) (by kernel_rfl) (by simp) (AllReadyH.cons (o := ⟨none, .store 37 (.tmp 40) (.tmp 39), 0, "law.go:20", #[⟨14, .data⟩, ⟨13, .data⟩, ⟨13, .chain⟩, ⟨0, .phase⟩, ⟨1, .phase⟩, ⟨2, .phase⟩, ⟨3, .phase⟩, ⟨4, .phase⟩, ⟨5, .phase⟩, ⟨6, .phase⟩, ⟨7, .phase⟩, ⟨8, .phase⟩, ⟨9, .phase⟩, ⟨10, .phase⟩, ⟨11, .phase⟩, ⟨12, .phase⟩, ⟨13, .phase⟩], none⟩) rfl (fun K hK => ?_) AllReadyH.nil)
          go_simp
          have hn8 := (Below.heap_setCell w7 ⟨Bo, 4, none⟩ (.slice (some ⟨gg, 0, none⟩) (k + 1) cap') Bn (by show Bn ≠ Bo; omega)).trans hn7
          have hSt : (w7.setCell ⟨Bo, 4, none⟩ (.slice (some ⟨gg, 0, none⟩) (k + 1) cap')).cell? ⟨Bn, 0, none⟩ = some (.int .i64 nh) ∧ (w7.setCell ⟨Bo, 4, none⟩ (.slice (some ⟨gg, 0, none⟩) (k + 1) cap')).cell? ⟨Bn, 1, none⟩ = some (.int .i64 na) ∧ (w7.setCell ⟨Bo, 4, none⟩ (.slice (some ⟨gg, 0, none⟩) (k + 1) cap')).cell? ⟨Bn, 2, none⟩ = some (.int .i64 nb) ∧ (w7.setCell ⟨Bo, 4, none⟩ (.slice (some ⟨gg, 0, none⟩) (k + 1) cap')).cell? ⟨Bn, 3, none⟩ = some (.int .i64 nlo) ∧ (w7.setCell ⟨Bo, 4, none⟩ (.slice (some ⟨gg, 0, none⟩) (k + 1) cap')).cell? ⟨Bn, 4, none⟩ = some (.int .i64 nhi) := by simp only [World.cell?, hn8]; simp
          refine hK.out _ _ (hSt) (fun hS5 => ?_)
          clear hS4 hK K
          refine wpAnyH_done (by kernel_rfl) ?_ _
          clear hS5
          go_wp2_with fail
          go_roundw
          case rel =>
            have hs7 : ∀ j, j ≠ Bo → (w7.setCell ⟨Bo, 4, none⟩ (.slice (some ⟨gg, 0, none⟩) (k + 1) cap')).heap[j]? = w7.heap[j]? := fun j hj => Below.heap_setCell _ _ _ _ hj
            refine ⟨k + 1, by omega, by go_num, .slice (some ⟨gg, 0, none⟩) (k + 1) cap', set_slot4 HO7.out _, (hs7 _ (by omega)).trans HR7.out, (hs7 _ (by omega)).trans HI7.out, own_of_blocks HOW7.out (fun g hg => hs7 g (by have := HOW7.out.lt g hg; omega)), HB7.out.setCell (by show w.heap.size ≤ Bo; omega) _⟩
          case measure => simp [intOf]; omega
        · skip
          go_simp
          refine (conv_any nlo nhi wn.drew).mono ?_
          rintro e w5 ⟨rfl, hb5⟩
          have hb5' : Below wn.heap.size wn w5 := (Below.refl _ wn).drew.trans hb5
          have HB5 := Lib.hid hb5'
          have hq5 := hb5'.size
          have hO5 := (hb5'.block Bo (by omega)).trans HO.out
          have q4 : w5.cell? ⟨Bo, 4, none⟩ = some (.slice Av k capv) := by simp [World.cell?, hO5]
          have HO5 := Lib.hid hO5
          have HOW5 := Lib.hid (HOW.out.kept (Go_grown_of_below hb5') (own_none _))
          clear hb5 hb5' hO5
          go_wp2_with fail
          refine hK.out _ _ ((HSN.out _ HB5.out)) (fun hS1 => ?_)
          clear hS0 hK K
          refine tkH 11 ⟨some 37, .build 105 #[(0, .tmp 29), (1, .tmp 31), (2, .tmp 33), (3, .tmp 36)], 105, "law.go:20", #[⟨3, .data⟩, ⟨5, .data⟩, ⟨7, .data⟩, ⟨10, .data⟩], none⟩ (v := ?_) hS1 ?_ ?_
          rotate_left
          · intro X ⟨x0, x1, x2, x3, x4⟩; go_simp; try with_reducible rfl
          simp only [Act.put, List.setIfInBounds_toArray, List.set_cons_zero, List.set_cons_succ, Array.toArray_toList]
          refine wpAnyH_ready (rs := [1, 12]) (by kernel_rfl) (by simp) (AllReadyH.cons (o := ⟨some 27, .load 37 (.tmp 26), 37, "law.go:20", #[⟨0, .data⟩], none⟩) rfl (fun K hK => ?_) (AllReadyH.cons (o := ⟨some 38, .buildSlice 37 1 #[(0, .tmp 37)], 37, "law.go:20", #[⟨11, .data⟩], none⟩) rfl (fun K hK => ?_) AllReadyH.nil))
          · skip
            go_simp
            refine hK.out _ _ (hS1) (fun hS2 => ?_)
            clear hS1 hK K
            refine wpAnyH_ready (rs := [12]) (by kernel_rfl) (by simp) (AllReadyH.cons (o := ⟨some 38, .buildSlice 37 1 #[(0, .tmp 37)], 37, "law.go:20", #[⟨11, .data⟩], none⟩) rfl (fun K hK => ?_) AllReadyH.nil)
            go_simp
            have hb6 : Below wn.heap.size wn (w5.alloc (.cells #[.int .i64 nh, .int .i64 na, .int .i64 nb, .int .i64 nlo, .int .i64 nhi] 105)) := HB5.out.alloc hq5 _
            have r4 : (w5.alloc (.cells #[.int .i64 nh, .int .i64 na, .int .i64 nb, .int .i64 nlo, .int .i64 nhi] 105)).cell? ⟨Bo, 4, none⟩ = some (.slice Av k capv) := (World.cell?_alloc_lt _ _ _ (World.block_lt_of_cell? w5 _ q4)).trans q4
            have HB6 := Lib.hid hb6
            clear hb6
            refine hK.out _ _ ((HSN.out _ HB6.out)) (fun hS3 => ?_)
            clear hS2 hK K
            refine wpAnyH_ready (rs := [13]) (by kernel_rfl) (by simp) (AllReadyH.cons (o := ⟨some 39, .call ⟨.builtin .append, #[.tmp 27, .tmp 38], #[37, 37]⟩, 37, "law.go:20", #[⟨1, .data⟩, ⟨12, .data⟩, ⟨10, .chain⟩], none⟩) rfl (fun K hK => ?_) AllReadyH.nil)
            refine step_append_lies _ (by rfl) _ _ _ (by rfl) (Bo + 1) 105 i0 _ 5 40 Try.underlying37 hi0.out hz0.out hz1.out hz2.out rfl (by omega) _ k _ (by rfl) (HOW5.out.alloc _) ⟨w5.heap.size, 0, none⟩ 1 1 [.int .i64 nh, .int .i64 na, .int .i64 nb, .int .i64 nlo, .int .i64 nhi] (by rfl) (by rfl) (World.news_of_block (cs := #[.int .i64 nh, .int .i64 na, .int .i64 nb, .int .i64 nlo, .int .i64 nhi]) (t := 105) (fr := (0, 0)) (Go.heap_alloc_new w5 _)) (by simp [Value.oneCell']) (by omega) (by unfold maxLen; omega) (by omega) (by simp; omega) (w5.heap.size + 1) (by simp) ?_
            intro gg cap' w7 hown7 hgrow hat hlt7
            have hblk : ∀ j, j < w5.heap.size → (j ≤ Bo ∨ wr.heap.size ≤ j) → w7.heap[j]? = w5.heap[j]? := fun j hj h => (hgrow.block j (by simp; omega) (fun e => by have h1 := HOW.out.lt j e.symm; have h2 := hown2 j e.symm; omega)).trans (Below.heap_alloc _ _ _ (by omega))
            have hO7 := (hblk Bo (by omega) (.inl (Nat.le_refl _))).trans HO5.out
            have s4 : w7.cell? ⟨Bo, 4, none⟩ = some (.slice Av k capv) := by simp [World.cell?, hO7]
            have sz : w7.frozen? ⟨Bo, 4, none⟩ = false := by simp [World.frozen?, hO7]
            have HO7 := Lib.hid hO7
            have HR7 := Lib.hid ((hblk Br (by omega) (.inl (by omega))).trans ((HB5.out.block Br (by omega)).trans HRn.out))
            have HI7 := Lib.hid ((hblk Bi (by omega) (.inl (by omega))).trans ((HB5.out.block Bi (by omega)).trans HIn.out))
            have hn7 := (hblk Bn (by omega) (.inr (by omega))).trans ((HB5.out.block Bn (by omega)).trans HNn.out)
            have HOW7 := Lib.hid (show w7.ownsRow (Bo + 1) 105 5 (.slice (some ⟨gg, 0, none⟩) (k + 1) cap') (k + 1) (flatN (s.ns.take (k + 1))) by rw [HTK.out, flatN_snoc]; exact hown7)
            have HB7 := Lib.hid (show Below w.heap.size w w7 from (HBn.out.trans ((HB6.out).mono HBn.out.size)).trans (below_of_grown hgrow (HOW5.out.alloc _) (by omega) (by simp; omega)))
            clear hown7 hgrow hat hlt7 hO7 hblk
            have hSs : w7.cell? ⟨Bn, 0, none⟩ = some (.int .i64 nh) ∧ w7.cell? ⟨Bn, 1, none⟩ = some (.int .i64 na) ∧ w7.cell? ⟨Bn, 2, none⟩ = some (.int .i64 nb) ∧ w7.cell? ⟨Bn, 3, none⟩ = some (.int .i64 nlo) ∧ w7.cell? ⟨Bn, 4, none⟩ = some (.int .i64 nhi) := by simp [World.cell?, hn7]
            refine hK.out _ _ (hSs) (fun hS4 => ?_)
            clear hS3 hK K
            simp only [Act.put, List.setIfInBounds_toArray, List.set_cons_zero, List.set_cons_succ, Array.toArray_toList]
            refine tkH 14 ⟨some 40, .fieldAddr 39 (.tmp 3) 3, 0, "law.go:20", #[⟨0, .phase⟩, ⟨1, .phase⟩, ⟨2, .phase⟩, ⟨3, .phase⟩, ⟨4, .phase⟩, ⟨5, .phase⟩, ⟨6, .phase⟩, ⟨7, .phase⟩, ⟨8, .phase⟩, ⟨9, .phase⟩, ⟨10, .phase⟩, ⟨11, .phase⟩, ⟨12, .phase⟩, ⟨13, .phase⟩], none⟩ (v := ?_) hS4 ?_ ?_
            rotate_left
            · intro X ⟨x0, x1, x2, x3, x4⟩; go_simp; try with_reducible rfl
            simp only [Act.put, List.setIfInBounds_toArray, List.set_cons_zero, List.set_cons_succ, Array.toArray_toList]
            refine wpAnyH_ready (rs := [15]) (by kernel_rfl) (by simp) (AllReadyH.cons (o := ⟨none, .store 37 (.tmp 40) (.tmp 39), 0, "law.go:20", #[⟨14, .data⟩, ⟨13, .data⟩, ⟨13, .chain⟩, ⟨0, .phase⟩, ⟨1, .phase⟩, ⟨2, .phase⟩, ⟨3, .phase⟩, ⟨4, .phase⟩, ⟨5, .phase⟩, ⟨6, .phase⟩, ⟨7, .phase⟩, ⟨8, .phase⟩, ⟨9, .phase⟩, ⟨10, .phase⟩, ⟨11, .phase⟩, ⟨12, .phase⟩, ⟨13, .phase⟩], none⟩) rfl (fun K hK => ?_) AllReadyH.nil)
            go_simp
            have hn8 := (Below.heap_setCell w7 ⟨Bo, 4, none⟩ (.slice (some ⟨gg, 0, none⟩) (k + 1) cap') Bn (by show Bn ≠ Bo; omega)).trans hn7
            have hSt : (w7.setCell ⟨Bo, 4, none⟩ (.slice (some ⟨gg, 0, none⟩) (k + 1) cap')).cell? ⟨Bn, 0, none⟩ = some (.int .i64 nh) ∧ (w7.setCell ⟨Bo, 4, none⟩ (.slice (some ⟨gg, 0, none⟩) (k + 1) cap')).cell? ⟨Bn, 1, none⟩ = some (.int .i64 na) ∧ (w7.setCell ⟨Bo, 4, none⟩ (.slice (some ⟨gg, 0, none⟩) (k + 1) cap')).cell? ⟨Bn, 2, none⟩ = some (.int .i64 nb) ∧ (w7.setCell ⟨Bo, 4, none⟩ (.slice (some ⟨gg, 0, none⟩) (k + 1) cap')).cell? ⟨Bn, 3, none⟩ = some (.int .i64 nlo) ∧ (w7.setCell ⟨Bo, 4, none⟩ (.slice (some ⟨gg, 0, none⟩) (k + 1) cap')).cell? ⟨Bn, 4, none⟩ = some (.int .i64 nhi) := by simp only [World.cell?, hn8]; simp
            refine hK.out _ _ (hSt) (fun hS5 => ?_)
            clear hS4 hK K
            refine wpAnyH_done (by kernel_rfl) ?_ _
            clear hS5
            go_wp2_with fail
            go_roundw
            case rel =>
              have hs7 : ∀ j, j ≠ Bo → (w7.setCell ⟨Bo, 4, none⟩ (.slice (some ⟨gg, 0, none⟩) (k + 1) cap')).heap[j]? = w7.heap[j]? := fun j hj => Below.heap_setCell _ _ _ _ hj
              refine ⟨k + 1, by omega, by go_num, .slice (some ⟨gg, 0, none⟩) (k + 1) cap', set_slot4 HO7.out _, (hs7 _ (by omega)).trans HR7.out, (hs7 _ (by omega)).trans HI7.out, own_of_blocks HOW7.out (fun g hg => hs7 g (by have := HOW7.out.lt g hg; omega)), HB7.out.setCell (by show w.heap.size ≤ Bo; omega) _⟩
            case measure => simp [intOf]; omega
          · skip
            go_simp
            have hb6 : Below wn.heap.size wn (w5.alloc (.cells #[.int .i64 nh, .int .i64 na, .int .i64 nb, .int .i64 nlo, .int .i64 nhi] 105)) := HB5.out.alloc hq5 _
            have r4 : (w5.alloc (.cells #[.int .i64 nh, .int .i64 na, .int .i64 nb, .int .i64 nlo, .int .i64 nhi] 105)).cell? ⟨Bo, 4, none⟩ = some (.slice Av k capv) := (World.cell?_alloc_lt _ _ _ (World.block_lt_of_cell? w5 _ q4)).trans q4
            have HB6 := Lib.hid hb6
            clear hb6
            refine hK.out _ _ ((HSN.out _ HB6.out)) (fun hS2 => ?_)
            clear hS1 hK K
            refine wpAnyH_ready (rs := [1]) (by kernel_rfl) (by simp) (AllReadyH.cons (o := ⟨some 27, .load 37 (.tmp 26), 37, "law.go:20", #[⟨0, .data⟩], none⟩) rfl (fun K hK => ?_) AllReadyH.nil)
            go_simp
            refine hK.out _ _ (hS2) (fun hS3 => ?_)
            clear hS2 hK K
            refine wpAnyH_ready (rs := [13]) (by kernel_rfl) (by simp) (AllReadyH.cons (o := ⟨some 39, .call ⟨.builtin .append, #[.tmp 27, .tmp 38], #[37, 37]⟩, 37, "law.go:20", #[⟨1, .data⟩, ⟨12, .data⟩, ⟨10, .chain⟩], none⟩) rfl (fun K hK => ?_) AllReadyH.nil)
            refine step_append_lies _ (by rfl) _ _ _ (by rfl) (Bo + 1) 105 i0 _ 5 40 Try.underlying37 hi0.out hz0.out hz1.out hz2.out rfl (by omega) _ k _ (by rfl) (HOW5.out.alloc _) ⟨w5.heap.size, 0, none⟩ 1 1 [.int .i64 nh, .int .i64 na, .int .i64 nb, .int .i64 nlo, .int .i64 nhi] (by rfl) (by rfl) (World.news_of_block (cs := #[.int .i64 nh, .int .i64 na, .int .i64 nb, .int .i64 nlo, .int .i64 nhi]) (t := 105) (fr := (0, 0)) (Go.heap_alloc_new w5 _)) (by simp [Value.oneCell']) (by omega) (by unfold maxLen; omega) (by omega) (by simp; omega) (w5.heap.size + 1) (by simp) ?_
            intro gg cap' w7 hown7 hgrow hat hlt7
            have hblk : ∀ j, j < w5.heap.size → (j ≤ Bo ∨ wr.heap.size ≤ j) → w7.heap[j]? = w5.heap[j]? := fun j hj h => (hgrow.block j (by simp; omega) (fun e => by have h1 := HOW.out.lt j e.symm; have h2 := hown2 j e.symm; omega)).trans (Below.heap_alloc _ _ _ (by omega))
            have hO7 := (hblk Bo (by omega) (.inl (Nat.le_refl _))).trans HO5.out
            have s4 : w7.cell? ⟨Bo, 4, none⟩ = some (.slice Av k capv) := by simp [World.cell?, hO7]
            have sz : w7.frozen? ⟨Bo, 4, none⟩ = false := by simp [World.frozen?, hO7]
            have HO7 := Lib.hid hO7
            have HR7 := Lib.hid ((hblk Br (by omega) (.inl (by omega))).trans ((HB5.out.block Br (by omega)).trans HRn.out))
            have HI7 := Lib.hid ((hblk Bi (by omega) (.inl (by omega))).trans ((HB5.out.block Bi (by omega)).trans HIn.out))
            have hn7 := (hblk Bn (by omega) (.inr (by omega))).trans ((HB5.out.block Bn (by omega)).trans HNn.out)
            have HOW7 := Lib.hid (show w7.ownsRow (Bo + 1) 105 5 (.slice (some ⟨gg, 0, none⟩) (k + 1) cap') (k + 1) (flatN (s.ns.take (k + 1))) by rw [HTK.out, flatN_snoc]; exact hown7)
            have HB7 := Lib.hid (show Below w.heap.size w w7 from (HBn.out.trans ((HB6.out).mono HBn.out.size)).trans (below_of_grown hgrow (HOW5.out.alloc _) (by omega) (by simp; omega)))
            clear hown7 hgrow hat hlt7 hO7 hblk
            have hSs : w7.cell? ⟨Bn, 0, none⟩ = some (.int .i64 nh) ∧ w7.cell? ⟨Bn, 1, none⟩ = some (.int .i64 na) ∧ w7.cell? ⟨Bn, 2, none⟩ = some (.int .i64 nb) ∧ w7.cell? ⟨Bn, 3, none⟩ = some (.int .i64 nlo) ∧ w7.cell? ⟨Bn, 4, none⟩ = some (.int .i64 nhi) := by simp [World.cell?, hn7]
            refine hK.out _ _ (hSs) (fun hS4 => ?_)
            clear hS3 hK K
            simp only [Act.put, List.setIfInBounds_toArray, List.set_cons_zero, List.set_cons_succ, Array.toArray_toList]
            refine tkH 14 ⟨some 40, .fieldAddr 39 (.tmp 3) 3, 0, "law.go:20", #[⟨0, .phase⟩, ⟨1, .phase⟩, ⟨2, .phase⟩, ⟨3, .phase⟩, ⟨4, .phase⟩, ⟨5, .phase⟩, ⟨6, .phase⟩, ⟨7, .phase⟩, ⟨8, .phase⟩, ⟨9, .phase⟩, ⟨10, .phase⟩, ⟨11, .phase⟩, ⟨12, .phase⟩, ⟨13, .phase⟩], none⟩ (v := ?_) hS4 ?_ ?_
            rotate_left
            · intro X ⟨x0, x1, x2, x3, x4⟩; go_simp; try with_reducible rfl
            simp only [Act.put, List.setIfInBounds_toArray, List.set_cons_zero, List.set_cons_succ, Array.toArray_toList]
            refine wpAnyH_ready (rs := [15]) (by kernel_rfl) (by simp) (AllReadyH.cons (o := ⟨none, .store 37 (.tmp 40) (.tmp 39), 0, "law.go:20", #[⟨14, .data⟩, ⟨13, .data⟩, ⟨13, .chain⟩, ⟨0, .phase⟩, ⟨1, .phase⟩, ⟨2, .phase⟩, ⟨3, .phase⟩, ⟨4, .phase⟩, ⟨5, .phase⟩, ⟨6, .phase⟩, ⟨7, .phase⟩, ⟨8, .phase⟩, ⟨9, .phase⟩, ⟨10, .phase⟩, ⟨11, .phase⟩, ⟨12, .phase⟩, ⟨13, .phase⟩], none⟩) rfl (fun K hK => ?_) AllReadyH.nil)
            go_simp
            have hn8 := (Below.heap_setCell w7 ⟨Bo, 4, none⟩ (.slice (some ⟨gg, 0, none⟩) (k + 1) cap') Bn (by show Bn ≠ Bo; omega)).trans hn7
            have hSt : (w7.setCell ⟨Bo, 4, none⟩ (.slice (some ⟨gg, 0, none⟩) (k + 1) cap')).cell? ⟨Bn, 0, none⟩ = some (.int .i64 nh) ∧ (w7.setCell ⟨Bo, 4, none⟩ (.slice (some ⟨gg, 0, none⟩) (k + 1) cap')).cell? ⟨Bn, 1, none⟩ = some (.int .i64 na) ∧ (w7.setCell ⟨Bo, 4, none⟩ (.slice (some ⟨gg, 0, none⟩) (k + 1) cap')).cell? ⟨Bn, 2, none⟩ = some (.int .i64 nb) ∧ (w7.setCell ⟨Bo, 4, none⟩ (.slice (some ⟨gg, 0, none⟩) (k + 1) cap')).cell? ⟨Bn, 3, none⟩ = some (.int .i64 nlo) ∧ (w7.setCell ⟨Bo, 4, none⟩ (.slice (some ⟨gg, 0, none⟩) (k + 1) cap')).cell? ⟨Bn, 4, none⟩ = some (.int .i64 nhi) := by simp only [World.cell?, hn8]; simp
            refine hK.out _ _ (hSt) (fun hS5 => ?_)
            clear hS4 hK K
            refine wpAnyH_done (by kernel_rfl) ?_ _
            clear hS5
            go_wp2_with fail
            go_roundw
            case rel =>
              have hs7 : ∀ j, j ≠ Bo → (w7.setCell ⟨Bo, 4, none⟩ (.slice (some ⟨gg, 0, none⟩) (k + 1) cap')).heap[j]? = w7.heap[j]? := fun j hj => Below.heap_setCell _ _ _ _ hj
              refine ⟨k + 1, by omega, by go_num, .slice (some ⟨gg, 0, none⟩) (k + 1) cap', set_slot4 HO7.out _, (hs7 _ (by omega)).trans HR7.out, (hs7 _ (by omega)).trans HI7.out, own_of_blocks HOW7.out (fun g hg => hs7 g (by have := HOW7.out.lt g hg; omega)), HB7.out.setCell (by show w.heap.size ≤ Bo; omega) _⟩
            case measure => simp [intOf]; omega
      · have hlt' : decide ((k : Int) < (s.ns.length : Int)) = false := by simpa using hlt
        obtain rfl : k = s.ns.length := by omega
        rw [List.take_length] at hown
        obtain ⟨A', cap', rfl, hang⟩ := NtsAt.of_own hown
        have c0 : wr.cell? ⟨Bo, 0, none⟩ = some (.int .i64 s.cap) := by simp [World.cell?, hO]
        have c1 : wr.cell? ⟨Bo, 1, none⟩ = some (.int .i64 s.can) := by simp [World.cell?, hO]
        have c2 : wr.cell? ⟨Bo, 2, none⟩ = some (.int .i64 s.sl) := by simp [World.cell?, hO]
        have c3 : wr.cell? ⟨Bo, 3, none⟩ = some (.int .i64 s.sh) := by simp [World.cell?, hO]
        have c4 : wr.cell? ⟨Bo, 4, none⟩ = some (.slice A' s.ns.length cap') := by simp [World.cell?, hO]
        have r0 : wr.cell? ⟨Br, 0, none⟩ = some (.int .i64 0) := by simp [World.cell?, hR]
        have r1 : wr.cell? ⟨Br, 1, none⟩ = some (.int .i64 0) := by simp [World.cell?, hR]
        have r2 : wr.cell? ⟨Br, 2, none⟩ = some (.int .i64 0) := by simp [World.cell?, hR]
        have r3 : wr.cell? ⟨Br, 3, none⟩ = some (.int .i64 0) := by simp [World.cell?, hR]
        have r4 : wr.cell? ⟨Br, 4, none⟩ = some (.slice none 0 0) := by simp [World.cell?, hR]
        have z0 : wr.frozen? ⟨Br, 0, none⟩ = false := by simp [World.frozen?, hR]
        have z1 : wr.frozen? ⟨Br, 1, none⟩ = false := by simp [World.frozen?, hR]
        have z2 : wr.frozen? ⟨Br, 2, none⟩ = false := by simp [World.frozen?, hR]
        have z3 : wr.frozen? ⟨Br, 3, none⟩ = false := by simp [World.frozen?, hR]
        have z4 : wr.frozen? ⟨Br, 4, none⟩ = false := by simp [World.frozen?, hR]
        have HR := Lib.hid hR
        have HBE := Lib.hid hBe
        have HANG := Lib.hid hang
        have HOWN := Lib.hid hown
        clear hR hBe hang hown hI
        go_wp2_with fail
        have hq := set_five HR.out (.int .i64 s.cap) (.int .i64 s.can) (.int .i64 s.sl) (.int .i64 s.sh) (.slice A' s.ns.length cap')
        have hb2 : Below w.heap.size w (((((wr.setCell ⟨Br, 0, none⟩ (.int .i64 s.cap)).setCell ⟨Br, 1, none⟩ (.int .i64 s.can)).setCell ⟨Br, 2, none⟩ (.int .i64 s.sl)).setCell ⟨Br, 3, none⟩ (.int .i64 s.sh)).setCell ⟨Br, 4, none⟩ (.slice A' s.ns.length cap')) := ((((HBE.out.setCell o1 _).setCell o1 _).setCell o1 _).setCell o1 _).setCell o1 _
        have hoth : ∀ j, j ≠ Br → (((((wr.setCell ⟨Br, 0, none⟩ (.int .i64 s.cap)).setCell ⟨Br, 1, none⟩ (.int .i64 s.can)).setCell ⟨Br, 2, none⟩ (.int .i64 s.sl)).setCell ⟨Br, 3, none⟩ (.int .i64 s.sh)).setCell ⟨Br, 4, none⟩ (.slice A' s.ns.length cap')).heap[j]? = wr.heap[j]? := fun j hj => (Below.heap_setCell _ _ _ _ hj).trans ((Below.heap_setCell _ _ _ _ hj).trans ((Below.heap_setCell _ _ _ _ hj).trans ((Below.heap_setCell _ _ _ _ hj).trans (Below.heap_setCell _ _ _ _ hj))))
        generalize (((((wr.setCell ⟨Br, 0, none⟩ (.int .i64 s.cap)).setCell ⟨Br, 1, none⟩ (.int .i64 s.can)).setCell ⟨Br, 2, none⟩ (.int .i64 s.sl)).setCell ⟨Br, 3, none⟩ (.int .i64 s.sh)).setCell ⟨Br, 4, none⟩ (.slice A' s.ns.length cap')) = V at hq hb2 hoth ⊢
        obtain ⟨A2, cap2, he2, hA2⟩ := NtsAt.of_own (own_of_blocks HOWN.out (fun g hg => hoth g (by have := HOWN.out.lt g hg; omega)))
        cases he2
        have q0 : V.cell? ⟨Br, 0, none⟩ = some (.int .i64 s.cap) := by simp [World.cell?, hq]
        have q1 : V.cell? ⟨Br, 1, none⟩ = some (.int .i64 s.can) := by simp [World.cell?, hq]
        have q2 : V.cell? ⟨Br, 2, none⟩ = some (.int .i64 s.sl) := by simp [World.cell?, hq]
        have q3 : V.cell? ⟨Br, 3, none⟩ = some (.int .i64 s.sh) := by simp [World.cell?, hq]
        have q4 : V.cell? ⟨Br, 4, none⟩ = some (.slice A' s.ns.length cap') := by simp [World.cell?, hq]
        exact bodyPost_ret (v := .agg #[.int .i64 s.cap, .int .i64 s.can, .int .i64 s.sl, .int .i64 s.sh, .slice A' s.ns.length cap']) (by simp [results, Try.results19, go_sem, q0, q1, q2, q3, q4]) rfl ⟨A', cap', rfl, hA2, hb2⟩
  · skip
    go_simp
    have hbq : Below w1.heap.size w1 (w1.drew.alloc (.cells #[.int .i64 0, .int .i64 0, .int .i64 0, .int .i64 0, .slice none 0 0] 39)) := (Below.refl _ w1).drew.alloc (Nat.le_refl _) _
    refine hK.out _ _ ((HS.out _ hbq)) (fun hS1 => ?_)
    clear hS0 hK K
    refine wpAnyH_ready (rs := [6]) (by kernel_rfl) (by simp) (AllReadyH.cons (o := ⟨some 12, .call ⟨.value (.func 54), #[.tmp 11], #[23]⟩, 36, "law.go:17", #[⟨5, .data⟩], none⟩) rfl (fun K hK => ?_) AllReadyH.nil)
    go_simp
    have HNN := Lib.hid (Go.heap_alloc_new w1.drew (.cells #[.int .i64 0, .int .i64 0, .int .i64 0, .int .i64 0, .slice none 0 0] 39))
    refine (conv_any s.sl s.sh _).mono ?_
    rintro e w3 ⟨rfl, hb2⟩
    have HNQ := Lib.hid ((hb2.block w1.drew.heap.size (by simp)).trans HNN.out)
    have HBQ := Lib.hid (hbq.trans (hb2.mono hbq.size))
    clear hb2 hbq HNN
    go_wp2_with fail
    refine hK.out _ _ ((HS.out _ HBQ.out)) (fun hS2 => ?_)
    clear hS1 hK K
    refine tkH 7 ⟨some 13, .build 39 #[(0, .tmp 7), (1, .tmp 9), (2, .tmp 12)], 39, "law.go:17", #[⟨1, .data⟩, ⟨3, .data⟩, ⟨6, .data⟩], none⟩ (v := ?_) hS2 ?_ ?_
    rotate_left
    · intro X ⟨x0, x1, x2, x3⟩; go_simp; try with_reducible rfl
    simp only [Act.put, List.setIfInBounds_toArray, List.set_cons_zero, List.set_cons_succ, Array.toArray_toList]
    obtain ⟨Bo, hBo⟩ : ∃ Bo, w1.heap.size = Bo := ⟨_, rfl⟩
    rw [show w1.drew.heap.size = w1.heap.size from rfl, hBo] at HNQ
    rw [hBo]
    have o4 : Br < Bo := by omega
    have o5 : w1.heap.size ≤ Bo := by omega
    refine wpAnyH_ready (rs := [9]) (by kernel_rfl) (by simp) (AllReadyH.cons (o := ⟨none, .store 39 (.tmp 3) (.tmp 13), 0, "law.go:17", #[⟨8, .data⟩, ⟨7, .data⟩, ⟨6, .chain⟩, ⟨0, .phase⟩, ⟨1, .phase⟩, ⟨2, .phase⟩, ⟨3, .phase⟩, ⟨4, .phase⟩, ⟨5, .phase⟩, ⟨6, .phase⟩, ⟨7, .phase⟩, ⟨8, .phase⟩], none⟩) rfl (fun K hK => ?_) AllReadyH.nil)
    go_simp
    have f0 : w3.frozen? ⟨Bo, 0, none⟩ = false := by simp [World.frozen?, HNQ.out]
    have f1 : w3.frozen? ⟨Bo, 1, none⟩ = false := by simp [World.frozen?, HNQ.out]
    have f2 : w3.frozen? ⟨Bo, 2, none⟩ = false := by simp [World.frozen?, HNQ.out]
    have f3 : w3.frozen? ⟨Bo, 3, none⟩ = false := by simp [World.frozen?, HNQ.out]
    have f4 : w3.frozen? ⟨Bo, 4, none⟩ = false := by simp [World.frozen?, HNQ.out]
    have g0 : w3.cell? ⟨Bo, 0, none⟩ = some (.int .i64 0) := by simp [World.cell?, HNQ.out]
    have g1 : w3.cell? ⟨Bo, 1, none⟩ = some (.int .i64 0) := by simp [World.cell?, HNQ.out]
    have g2 : w3.cell? ⟨Bo, 2, none⟩ = some (.int .i64 0) := by simp [World.cell?, HNQ.out]
    have g3 : w3.cell? ⟨Bo, 3, none⟩ = some (.int .i64 0) := by simp [World.cell?, HNQ.out]
    have g4 : w3.cell? ⟨Bo, 4, none⟩ = some (.slice none 0 0) := by simp [World.cell?, HNQ.out]
    go_simp
    have hoth : ∀ j, j ≠ Bo → (((((w3.setCell ⟨Bo, 0, none⟩ (.int .i64 s.cap)).setCell ⟨Bo, 1, none⟩ (.int .i64 s.can)).setCell ⟨Bo, 2, none⟩ (.int .i64 s.sl)).setCell ⟨Bo, 3, none⟩ (.int .i64 s.sh)).setCell ⟨Bo, 4, none⟩ (.slice none 0 0)).heap[j]? = w3.heap[j]? := fun j hj => (Below.heap_setCell _ _ _ _ hj).trans ((Below.heap_setCell _ _ _ _ hj).trans ((Below.heap_setCell _ _ _ _ hj).trans ((Below.heap_setCell _ _ _ _ hj).trans (Below.heap_setCell _ _ _ _ hj))))
    have hO4 := set_five HNQ.out (.int .i64 s.cap) (.int .i64 s.can) (.int .i64 s.sl) (.int .i64 s.sh) (.slice none 0 0)
    have hB4 : Below w1.heap.size w1 (((((w3.setCell ⟨Bo, 0, none⟩ (.int .i64 s.cap)).setCell ⟨Bo, 1, none⟩ (.int .i64 s.can)).setCell ⟨Bo, 2, none⟩ (.int .i64 s.sl)).setCell ⟨Bo, 3, none⟩ (.int .i64 s.sh)).setCell ⟨Bo, 4, none⟩ (.slice none 0 0)) := ((((HBQ.out.setCell o5 _).setCell o5 _).setCell o5 _).setCell o5 _).setCell o5 _
    generalize (((((w3.setCell ⟨Bo, 0, none⟩ (.int .i64 s.cap)).setCell ⟨Bo, 1, none⟩ (.int .i64 s.can)).setCell ⟨Bo, 2, none⟩ (.int .i64 s.sl)).setCell ⟨Bo, 3, none⟩ (.int .i64 s.sh)).setCell ⟨Bo, 4, none⟩ (.slice none 0 0)) = w4 at hoth hO4 hB4 ⊢
    have HO4 := Lib.hid hO4
    have HR4 := Lib.hid ((hB4.block Br (by omega)).trans HU.out)
    have HI4 := Lib.hid ((hB4.block Bi (by omega)).trans HN.out)
    have HB4 := Lib.hid (HB.out.trans (hB4.mono HB.out.size))
    clear f0 f1 f2 f3 f4 g0 g1 g2 g3 g4 x0 x1 x2 x3 hoth hO4
    refine hK.out _ _ ((HS.out _ hB4)) (fun hS3 => ?_)
    clear hS2 hK K
    refine wpAnyH_done (by kernel_rfl) ?_ _
    clear hS3
    go_wp2_with fail
    go_loopw [4] (SCRel s A cp w Bi Br Bo) (fun i _ => s.ns.length - (intOf i).toNat)
    case atStart => exact ⟨0, by omega, rfl, _, HO4.out, HR4.out, HI4.out, World.ownsRow_nil _ _ _ _, HB4.out⟩
    case round =>
      clear HO4 HR4 HI4 HB4
      obtain ⟨k, hk, rfl, v, hO, hR, hI, hown, hBe⟩ := hrel
      have x4 : wr.cell? ⟨Bi, 4, none⟩ = some (.slice A s.ns.length cp) := by simp [World.cell?, hI]
      by_cases hlt : k < s.ns.length
      · have hlt' : decide ((k : Int) < (s.ns.length : Int)) = true := by simpa using hlt
        obtain ⟨b, o, rfl, a0, a1, a2, a3, a4⟩ := (HA.out.keep hBe (Nat.le_refl _)).at hlt
        obtain ⟨n, hnk⟩ : ∃ n, s.ns[k] = n := ⟨_, rfl⟩
        rw [hnk] at a0 a1 a2 a3 a4
        have htk : s.ns.take (k + 1) = s.ns.take k ++ [n] := by rw [List.take_succ_eq_append_getElem hlt, hnk]
        obtain ⟨⟨nh, na, nb, nlo, nhi⟩, hne⟩ : ∃ N, n = N := ⟨_, rfl⟩
        subst hne
        dsimp only at a0 a1 a2 a3 a4
        have HTK := Lib.hid htk
        obtain ⟨Av, capv, rfl⟩ : ∃ Av capv, v = .slice Av k capv := own_slice hown
        have lO : Bo < wr.heap.size := (Array.getElem?_eq_some_iff.1 hO).1
        have i1 : (0 : Int) ≤ (k : Int) := by omega
        have i2 : (k : Int) < (s.ns.length : Int) := by omega
        have hbn : Below wr.heap.size wr (wr.alloc (.cells #[.int .i64 nh, .int .i64 na, .int .i64 nb, .int .i64 nlo, .int .i64 nhi] 80)) := (Below.refl _ _).alloc (Nat.le_refl _) _
        have HNn' := Go.heap_alloc_new wr (.cells #[.int .i64 nh, .int .i64 na, .int .i64 nb, .int .i64 nlo, .int .i64 nhi] 80)
        have hln : (wr.alloc (.cells #[.int .i64 nh, .int .i64 na, .int .i64 nb, .int .i64 nlo, .int .i64 nhi] 80)).heap.size = wr.heap.size + 1 := by simp
        have hHBn := hBe.trans (hbn.mono hBe.size)
        have hO' := (hbn.block Bo lO).trans hO
        have hR' := (hbn.block Br (by omega)).trans hR
        have hI' := (hbn.block Bi (by omega)).trans hI
        have how' := hown.kept (Go_grown_of_below hbn) (own_none _)
        have HOWR := Lib.hid hown
        have hwrs := hBe.size
        clear htk hnk hO hR hI hown hBe hbn
        go_wp2_with fail
        clear a0 a1 a2 a3 a4 x4
        generalize wr.alloc (.cells #[.int .i64 nh, .int .i64 na, .int .i64 nb, .int .i64 nlo, .int .i64 nhi] 80) = wn at HNn' hln hHBn hO' hR' hI' how' ⊢
        obtain ⟨Bn, hBn⟩ : ∃ Bn, wr.heap.size = Bn := ⟨_, rfl⟩
        rw [hBn] at HNn' ⊢
        have hSN : ∀ X, Below wn.heap.size wn X → X.cell? ⟨Bn, 0, none⟩ = some (.int .i64 nh) ∧ X.cell? ⟨Bn, 1, none⟩ = some (.int .i64 na) ∧ X.cell? ⟨Bn, 2, none⟩ = some (.int .i64 nb) ∧ X.cell? ⟨Bn, 3, none⟩ = some (.int .i64 nlo) ∧ X.cell? ⟨Bn, 4, none⟩ = some (.int .i64 nhi) := fun X hX => by
          have h := (hX.block Bn (by omega)).trans HNn'
          simp [World.cell?, h]
        obtain ⟨c0, c1, c2, c3, c4⟩ := hSN _ (Below.refl _ _)
        have p4 : wn.cell? ⟨Bo, 4, none⟩ = some (.slice Av k capv) := by simp [World.cell?, hO']
        have p4d : wn.drew.cell? ⟨Bo, 4, none⟩ = some (.slice Av k capv) := p4
        have HSN := Lib.hid hSN
        have HNn := Lib.hid HNn'
        have HBn := Lib.hid hHBn
        have HO := Lib.hid hO'
        have HRn := Lib.hid hR'
        have HIn := Lib.hid hI'
        have HOW := Lib.hid (show wn.ownsRow (Bo + 1) 105 5 (.slice Av k capv) k (flatN (s.ns.take k)) from how')
        have hown2 : ∀ r, (Value.slice Av k capv).ownBlock = some r → r < wr.heap.size := fun r hr => (HOWR.out.lt r hr).2
        clear hSN HNn' hHBn hO' hR' hI' how' HOWR
        refine wp_region_held_drew (S := fun X => X.cell? ⟨Bn, 0, none⟩ = some (.int .i64 nh) ∧ X.cell? ⟨Bn, 1, none⟩ = some (.int .i64 na) ∧ X.cell? ⟨Bn, 2, none⟩ = some (.int .i64 nb) ∧ X.cell? ⟨Bn, 3, none⟩ = some (.int .i64 nlo) ∧ X.cell? ⟨Bn, 4, none⟩ = some (.int .i64 nhi)) (by kernel_rfl) (⟨c0, c1, c2, c3, c4⟩) (fun hS0 => ?_)
        refine tkH 0 ⟨some 26, .fieldAddr 39 (.tmp 3) 3, 0, "law.go:20", #[], none⟩ (v := ?_) hS0 ?_ ?_
        rotate_left
        · intro X ⟨x0, x1, x2, x3, x4⟩; go_simp; try with_reducible rfl
        simp only [Act.put, List.setIfInBounds_toArray, List.set_cons_zero, List.set_cons_succ, Array.toArray_toList]
        refine tkH 2 ⟨some 28, .fieldAddr 80 (.tmp 5) 0, 0, "law.go:20", #[], none⟩ (v := ?_) hS0 ?_ ?_
        rotate_left
        · intro X ⟨x0, x1, x2, x3, x4⟩; go_simp; try with_reducible rfl
        simp only [Act.put, List.setIfInBounds_toArray, List.set_cons_zero, List.set_cons_succ, Array.toArray_toList]
        refine tkH 3 ⟨some 29, .load 3 (.tmp 28), 3, "law.go:20", #[⟨2, .data⟩], none⟩ (v := ?_) hS0 ?_ ?_
        rotate_left
        · intro X ⟨x0, x1, x2, x3, x4⟩; go_simp; try with_reducible rfl
        simp only [Act.put, List.setIfInBounds_toArray, List.set_cons_zero, List.set_cons_succ, Array.toArray_toList]
        refine tkH 4 ⟨some 30, .fieldAddr 80 (.tmp 5) 1, 0, "law.go:20", #[], none⟩ (v := ?_) hS0 ?_ ?_
        rotate_left
        · intro X ⟨x0, x1, x2, x3, x4⟩; go_simp; try with_reducible rfl
        simp only [Act.put, List.setIfInBounds_toArray, List.set_cons_zero, List.set_cons_succ, Array.toArray_toList]
        refine tkH 5 ⟨some 31, .load 3 (.tmp 30), 3, "law.go:20", #[⟨4, .data⟩], none⟩ (v := ?_) hS0 ?_ ?_
        rotate_left
        · intro X ⟨x0, x1, x2, x3, x4⟩; go_simp; try with_reducible rfl
        simp only [Act.put, List.setIfInBounds_toArray, List.set_cons_zero, List.set_cons_succ, Array.toArray_toList]
        refine tkH 6 ⟨some 32, .fieldAddr 80 (.tmp 5) 2, 0, "law.go:20", #[], none⟩ (v := ?_) hS0 ?_ ?_
        rotate_left
        · intro X ⟨x0, x1, x2, x3, x4⟩; go_simp; try with_reducible rfl
        simp only [Act.put, List.setIfInBounds_toArray, List.set_cons_zero, List.set_cons_succ, Array.toArray_toList]
        refine tkH 7 ⟨some 33, .load 3 (.tmp 32), 3, "law.go:20", #[⟨6, .data⟩], none⟩ (v := ?_) hS0 ?_ ?_
        rotate_left
        · intro X ⟨x0, x1, x2, x3, x4⟩; go_simp; try with_reducible rfl
        simp only [Act.put, List.setIfInBounds_toArray, List.set_cons_zero, List.set_cons_succ, Array.toArray_toList]
        refine tkH 8 ⟨some 34, .fieldAddr 80 (.tmp 5) 3, 0, "law.go:20", #[], none⟩ (v := ?_) hS0 ?_ ?_
        rotate_left
        · intro X ⟨x0, x1, x2, x3, x4⟩; go_simp; try with_reducible rfl
        simp only [Act.put, List.setIfInBounds_toArray, List.set_cons_zero, List.set_cons_succ, Array.toArray_toList]
        refine tkH 9 ⟨some 35, .load 23 (.tmp 34), 23, "law.go:20", #[⟨8, .data⟩], none⟩ (v := ?_) hS0 ?_ ?_
        rotate_left
        · intro X ⟨x0, x1, x2, x3, x4⟩; go_simp; try with_reducible rfl
        simp only [Act.put, List.setIfInBounds_toArray, List.set_cons_zero, List.set_cons_succ, Array.toArray_toList]
        refine wpAnyH_ready (rs := [1, 10]) (by kernel_rfl) (by simp) (AllReadyH.cons (o := ⟨some 27, .load 37 (.tmp 26), 37, "law.go:20", #[⟨0, .data⟩], none⟩) rfl (fun K hK => ?_) (AllReadyH.cons (o := ⟨some 36, .call ⟨.value (.func 54), #[.tmp 35], #[23]⟩, 36, "law.go:20", #[⟨9, .data⟩], none⟩) rfl (fun K hK => ?_) AllReadyH.nil))
        · skip
          go_simp
          refine hK.out _ _ (hS0) (fun hS1 => ?_)
          clear hS0 hK K
          refine wpAnyH_ready (rs := [10]) (by kernel_rfl) (by simp) (AllReadyH.cons (o := ⟨some 36, .call ⟨.value (.func 54), #[.tmp 35], #[23]⟩, 36, "law.go:20", #[⟨9, .data⟩], none⟩) rfl (fun K hK => ?_) AllReadyH.nil)
          go_simp
          refine (conv_any nlo nhi wn.drew).mono ?_
          rintro e w5 ⟨rfl, hb5⟩
          have hb5' : Below wn.heap.size wn w5 := (Below.refl _ wn).drew.trans hb5
          have HB5 := Lib.hid hb5'
          have hq5 := hb5'.size
          have hO5 := (hb5'.block Bo (by omega)).trans HO.out
          have q4 : w5.cell? ⟨Bo, 4, none⟩ = some (.slice Av k capv) := by simp [World.cell?, hO5]
          have HO5 := Lib.hid hO5
          have HOW5 := Lib.hid (HOW.out.kept (Go_grown_of_below hb5') (own_none _))
          clear hb5 hb5' hO5
          go_wp2_with fail
          refine hK.out _ _ ((HSN.out _ HB5.out)) (fun hS2 => ?_)
          clear hS1 hK K
          refine tkH 11 ⟨some 37, .build 105 #[(0, .tmp 29), (1, .tmp 31), (2, .tmp 33), (3, .tmp 36)], 105, "law.go:20", #[⟨3, .data⟩, ⟨5, .data⟩, ⟨7, .data⟩, ⟨10, .data⟩], none⟩ (v := ?_) hS2 ?_ ?_
          rotate_left
          · intro X ⟨x0, x1, x2, x3, x4⟩; go_simp; try with_reducible rfl
          simp only [Act.put, List.setIfInBounds_toArray, List.set_cons_zero, List.set_cons_succ, Array.toArray_toList]
          refine wpAnyH_ready (rs := [12]) (by kernel_rfl) (by simp) (AllReadyH.cons (o := ⟨some 38, .buildSlice 37 1 #[(0, .tmp 37)], 37, "law.go:20", #[⟨11, .data⟩], none⟩) rfl (fun K hK => ?_) AllReadyH.nil)
          go_simp
          have hb6 : Below wn.heap.size wn (w5.alloc (.cells #[.int .i64 nh, .int .i64 na, .int .i64 nb, .int .i64 nlo, .int .i64 nhi] 105)) := HB5.out.alloc hq5 _
          have r4 : (w5.alloc (.cells #[.int .i64 nh, .int .i64 na, .int .i64 nb, .int .i64 nlo, .int .i64 nhi] 105)).cell? ⟨Bo, 4, none⟩ = some (.slice Av k capv) := (World.cell?_alloc_lt _ _ _ (World.block_lt_of_cell? w5 _ q4)).trans q4
          have HB6 := Lib.hid hb6
          clear hb6
          refine hK.out _ _ ((HSN.out _ HB6.out)) (fun hS3 => ?_)
          clear hS2 hK K
          refine wpAnyH_ready (rs := [13]) (by kernel_rfl) (by simp) (AllReadyH.cons (o := ⟨some 39, .call ⟨.builtin .append, #[.tmp 27, .tmp 38], #[37, 37]⟩, 37, "law.go:20", #[⟨1, .data⟩, ⟨12, .data⟩, ⟨10, .chain⟩], none⟩) rfl (fun K hK => ?_) AllReadyH.nil)
          refine step_append_lies _ (by rfl) _ _ _ (by rfl) (Bo + 1) 105 i0 _ 5 40 Try.underlying37 hi0.out hz0.out hz1.out hz2.out rfl (by omega) _ k _ (by rfl) (HOW5.out.alloc _) ⟨w5.heap.size, 0, none⟩ 1 1 [.int .i64 nh, .int .i64 na, .int .i64 nb, .int .i64 nlo, .int .i64 nhi] (by rfl) (by rfl) (World.news_of_block (cs := #[.int .i64 nh, .int .i64 na, .int .i64 nb, .int .i64 nlo, .int .i64 nhi]) (t := 105) (fr := (0, 0)) (Go.heap_alloc_new w5 _)) (by simp [Value.oneCell']) (by omega) (by unfold maxLen; omega) (by omega) (by simp; omega) (w5.heap.size + 1) (by simp) ?_
          intro gg cap' w7 hown7 hgrow hat hlt7
          have hblk : ∀ j, j < w5.heap.size → (j ≤ Bo ∨ wr.heap.size ≤ j) → w7.heap[j]? = w5.heap[j]? := fun j hj h => (hgrow.block j (by simp; omega) (fun e => by have h1 := HOW.out.lt j e.symm; have h2 := hown2 j e.symm; omega)).trans (Below.heap_alloc _ _ _ (by omega))
          have hO7 := (hblk Bo (by omega) (.inl (Nat.le_refl _))).trans HO5.out
          have s4 : w7.cell? ⟨Bo, 4, none⟩ = some (.slice Av k capv) := by simp [World.cell?, hO7]
          have sz : w7.frozen? ⟨Bo, 4, none⟩ = false := by simp [World.frozen?, hO7]
          have HO7 := Lib.hid hO7
          have HR7 := Lib.hid ((hblk Br (by omega) (.inl (by omega))).trans ((HB5.out.block Br (by omega)).trans HRn.out))
          have HI7 := Lib.hid ((hblk Bi (by omega) (.inl (by omega))).trans ((HB5.out.block Bi (by omega)).trans HIn.out))
          have hn7 := (hblk Bn (by omega) (.inr (by omega))).trans ((HB5.out.block Bn (by omega)).trans HNn.out)
          have HOW7 := Lib.hid (show w7.ownsRow (Bo + 1) 105 5 (.slice (some ⟨gg, 0, none⟩) (k + 1) cap') (k + 1) (flatN (s.ns.take (k + 1))) by rw [HTK.out, flatN_snoc]; exact hown7)
          have HB7 := Lib.hid (show Below w.heap.size w w7 from (HBn.out.trans ((HB6.out).mono HBn.out.size)).trans (below_of_grown hgrow (HOW5.out.alloc _) (by omega) (by simp; omega)))
          clear hown7 hgrow hat hlt7 hO7 hblk
          have hSs : w7.cell? ⟨Bn, 0, none⟩ = some (.int .i64 nh) ∧ w7.cell? ⟨Bn, 1, none⟩ = some (.int .i64 na) ∧ w7.cell? ⟨Bn, 2, none⟩ = some (.int .i64 nb) ∧ w7.cell? ⟨Bn, 3, none⟩ = some (.int .i64 nlo) ∧ w7.cell? ⟨Bn, 4, none⟩ = some (.int .i64 nhi) := by simp [World.cell?, hn7]
          refine hK.out _ _ (hSs) (fun hS4 => ?_)
          clear hS3 hK K
          simp only [Act.put, List.setIfInBounds_toArray, List.set_cons_zero, List.set_cons_succ, Array.toArray_toList]
          refine tkH 14 ⟨some 40, .fieldAddr 39 (.tmp 3) 3, 0, "law.go:20", #[⟨0, .phase⟩, ⟨1, .phase⟩, ⟨2, .phase⟩, ⟨3, .phase⟩, ⟨4, .phase⟩, ⟨5, .phase⟩, ⟨6, .phase⟩, ⟨7, .phase⟩, ⟨8, .phase⟩, ⟨9, .phase⟩, ⟨10, .phase⟩, ⟨11, .phase⟩, ⟨12, .phase⟩, ⟨13, .phase⟩], none⟩ (v := ?_) hS4 ?_ ?_
          rotate_left
          · intro X ⟨x0, x1, x2, x3, x4⟩; go_simp; try with_reducible rfl
          simp only [Act.put, List.setIfInBounds_toArray, List.set_cons_zero, List.set_cons_succ, Array.toArray_toList]
          refine wpAnyH_ready (rs := [15]) (by kernel_rfl) (by simp) (AllReadyH.cons (o := ⟨none, .store 37 (.tmp 40) (.tmp 39), 0, "law.go:20", #[⟨14, .data⟩, ⟨13, .data⟩, ⟨13, .chain⟩, ⟨0, .phase⟩, ⟨1, .phase⟩, ⟨2, .phase⟩, ⟨3, .phase⟩, ⟨4, .phase⟩, ⟨5, .phase⟩, ⟨6, .phase⟩, ⟨7, .phase⟩, ⟨8, .phase⟩, ⟨9, .phase⟩, ⟨10, .phase⟩, ⟨11, .phase⟩, ⟨12, .phase⟩, ⟨13, .phase⟩], none⟩) rfl (fun K hK => ?_) AllReadyH.nil)
          go_simp
          have hn8 := (Below.heap_setCell w7 ⟨Bo, 4, none⟩ (.slice (some ⟨gg, 0, none⟩) (k + 1) cap') Bn (by show Bn ≠ Bo; omega)).trans hn7
          have hSt : (w7.setCell ⟨Bo, 4, none⟩ (.slice (some ⟨gg, 0, none⟩) (k + 1) cap')).cell? ⟨Bn, 0, none⟩ = some (.int .i64 nh) ∧ (w7.setCell ⟨Bo, 4, none⟩ (.slice (some ⟨gg, 0, none⟩) (k + 1) cap')).cell? ⟨Bn, 1, none⟩ = some (.int .i64 na) ∧ (w7.setCell ⟨Bo, 4, none⟩ (.slice (some ⟨gg, 0, none⟩) (k + 1) cap')).cell? ⟨Bn, 2, none⟩ = some (.int .i64 nb) ∧ (w7.setCell ⟨Bo, 4, none⟩ (.slice (some ⟨gg, 0, none⟩) (k + 1) cap')).cell? ⟨Bn, 3, none⟩ = some (.int .i64 nlo) ∧ (w7.setCell ⟨Bo, 4, none⟩ (.slice (some ⟨gg, 0, none⟩) (k + 1) cap')).cell? ⟨Bn, 4, none⟩ = some (.int .i64 nhi) := by simp only [World.cell?, hn8]; simp
          refine hK.out _ _ (hSt) (fun hS5 => ?_)
          clear hS4 hK K
          refine wpAnyH_done (by kernel_rfl) ?_ _
          clear hS5
          go_wp2_with fail
          go_roundw
          case rel =>
            have hs7 : ∀ j, j ≠ Bo → (w7.setCell ⟨Bo, 4, none⟩ (.slice (some ⟨gg, 0, none⟩) (k + 1) cap')).heap[j]? = w7.heap[j]? := fun j hj => Below.heap_setCell _ _ _ _ hj
            refine ⟨k + 1, by omega, by go_num, .slice (some ⟨gg, 0, none⟩) (k + 1) cap', set_slot4 HO7.out _, (hs7 _ (by omega)).trans HR7.out, (hs7 _ (by omega)).trans HI7.out, own_of_blocks HOW7.out (fun g hg => hs7 g (by have := HOW7.out.lt g hg; omega)), HB7.out.setCell (by show w.heap.size ≤ Bo; omega) _⟩
          case measure => simp [intOf]; omega
        · skip
          go_simp
          refine (conv_any nlo nhi wn.drew).mono ?_
          rintro e w5 ⟨rfl, hb5⟩
          have hb5' : Below wn.heap.size wn w5 := (Below.refl _ wn).drew.trans hb5
          have HB5 := Lib.hid hb5'
          have hq5 := hb5'.size
          have hO5 := (hb5'.block Bo (by omega)).trans HO.out
          have q4 : w5.cell? ⟨Bo, 4, none⟩ = some (.slice Av k capv) := by simp [World.cell?, hO5]
          have HO5 := Lib.hid hO5
          have HOW5 := Lib.hid (HOW.out.kept (Go_grown_of_below hb5') (own_none _))
          clear hb5 hb5' hO5
          go_wp2_with fail
          refine hK.out _ _ ((HSN.out _ HB5.out)) (fun hS1 => ?_)
          clear hS0 hK K
          refine tkH 11 ⟨some 37, .build 105 #[(0, .tmp 29), (1, .tmp 31), (2, .tmp 33), (3, .tmp 36)], 105, "law.go:20", #[⟨3, .data⟩, ⟨5, .data⟩, ⟨7, .data⟩, ⟨10, .data⟩], none⟩ (v := ?_) hS1 ?_ ?_
          rotate_left
          · intro X ⟨x0, x1, x2, x3, x4⟩; go_simp; try with_reducible rfl
          simp only [Act.put, List.setIfInBounds_toArray, List.set_cons_zero, List.set_cons_succ, Array.toArray_toList]
          refine wpAnyH_ready (rs := [1, 12]) (by kernel_rfl) (by simp) (AllReadyH.cons (o := ⟨some 27, .load 37 (.tmp 26), 37, "law.go:20", #[⟨0, .data⟩], none⟩) rfl (fun K hK => ?_) (AllReadyH.cons (o := ⟨some 38, .buildSlice 37 1 #[(0, .tmp 37)], 37, "law.go:20", #[⟨11, .data⟩], none⟩) rfl (fun K hK => ?_) AllReadyH.nil))
          · skip
            go_simp
            refine hK.out _ _ (hS1) (fun hS2 => ?_)
            clear hS1 hK K
            refine wpAnyH_ready (rs := [12]) (by kernel_rfl) (by simp) (AllReadyH.cons (o := ⟨some 38, .buildSlice 37 1 #[(0, .tmp 37)], 37, "law.go:20", #[⟨11, .data⟩], none⟩) rfl (fun K hK => ?_) AllReadyH.nil)
            go_simp
            have hb6 : Below wn.heap.size wn (w5.alloc (.cells #[.int .i64 nh, .int .i64 na, .int .i64 nb, .int .i64 nlo, .int .i64 nhi] 105)) := HB5.out.alloc hq5 _
            have r4 : (w5.alloc (.cells #[.int .i64 nh, .int .i64 na, .int .i64 nb, .int .i64 nlo, .int .i64 nhi] 105)).cell? ⟨Bo, 4, none⟩ = some (.slice Av k capv) := (World.cell?_alloc_lt _ _ _ (World.block_lt_of_cell? w5 _ q4)).trans q4
            have HB6 := Lib.hid hb6
            clear hb6
            refine hK.out _ _ ((HSN.out _ HB6.out)) (fun hS3 => ?_)
            clear hS2 hK K
            refine wpAnyH_ready (rs := [13]) (by kernel_rfl) (by simp) (AllReadyH.cons (o := ⟨some 39, .call ⟨.builtin .append, #[.tmp 27, .tmp 38], #[37, 37]⟩, 37, "law.go:20", #[⟨1, .data⟩, ⟨12, .data⟩, ⟨10, .chain⟩], none⟩) rfl (fun K hK => ?_) AllReadyH.nil)
            refine step_append_lies _ (by rfl) _ _ _ (by rfl) (Bo + 1) 105 i0 _ 5 40 Try.underlying37 hi0.out hz0.out hz1.out hz2.out rfl (by omega) _ k _ (by rfl) (HOW5.out.alloc _) ⟨w5.heap.size, 0, none⟩ 1 1 [.int .i64 nh, .int .i64 na, .int .i64 nb, .int .i64 nlo, .int .i64 nhi] (by rfl) (by rfl) (World.news_of_block (cs := #[.int .i64 nh, .int .i64 na, .int .i64 nb, .int .i64 nlo, .int .i64 nhi]) (t := 105) (fr := (0, 0)) (Go.heap_alloc_new w5 _)) (by simp [Value.oneCell']) (by omega) (by unfold maxLen; omega) (by omega) (by simp; omega) (w5.heap.size + 1) (by simp) ?_
            intro gg cap' w7 hown7 hgrow hat hlt7
            have hblk : ∀ j, j < w5.heap.size → (j ≤ Bo ∨ wr.heap.size ≤ j) → w7.heap[j]? = w5.heap[j]? := fun j hj h => (hgrow.block j (by simp; omega) (fun e => by have h1 := HOW.out.lt j e.symm; have h2 := hown2 j e.symm; omega)).trans (Below.heap_alloc _ _ _ (by omega))
            have hO7 := (hblk Bo (by omega) (.inl (Nat.le_refl _))).trans HO5.out
            have s4 : w7.cell? ⟨Bo, 4, none⟩ = some (.slice Av k capv) := by simp [World.cell?, hO7]
            have sz : w7.frozen? ⟨Bo, 4, none⟩ = false := by simp [World.frozen?, hO7]
            have HO7 := Lib.hid hO7
            have HR7 := Lib.hid ((hblk Br (by omega) (.inl (by omega))).trans ((HB5.out.block Br (by omega)).trans HRn.out))
            have HI7 := Lib.hid ((hblk Bi (by omega) (.inl (by omega))).trans ((HB5.out.block Bi (by omega)).trans HIn.out))
            have hn7 := (hblk Bn (by omega) (.inr (by omega))).trans ((HB5.out.block Bn (by omega)).trans HNn.out)
            have HOW7 := Lib.hid (show w7.ownsRow (Bo + 1) 105 5 (.slice (some ⟨gg, 0, none⟩) (k + 1) cap') (k + 1) (flatN (s.ns.take (k + 1))) by rw [HTK.out, flatN_snoc]; exact hown7)
            have HB7 := Lib.hid (show Below w.heap.size w w7 from (HBn.out.trans ((HB6.out).mono HBn.out.size)).trans (below_of_grown hgrow (HOW5.out.alloc _) (by omega) (by simp; omega)))
            clear hown7 hgrow hat hlt7 hO7 hblk
            have hSs : w7.cell? ⟨Bn, 0, none⟩ = some (.int .i64 nh) ∧ w7.cell? ⟨Bn, 1, none⟩ = some (.int .i64 na) ∧ w7.cell? ⟨Bn, 2, none⟩ = some (.int .i64 nb) ∧ w7.cell? ⟨Bn, 3, none⟩ = some (.int .i64 nlo) ∧ w7.cell? ⟨Bn, 4, none⟩ = some (.int .i64 nhi) := by simp [World.cell?, hn7]
            refine hK.out _ _ (hSs) (fun hS4 => ?_)
            clear hS3 hK K
            simp only [Act.put, List.setIfInBounds_toArray, List.set_cons_zero, List.set_cons_succ, Array.toArray_toList]
            refine tkH 14 ⟨some 40, .fieldAddr 39 (.tmp 3) 3, 0, "law.go:20", #[⟨0, .phase⟩, ⟨1, .phase⟩, ⟨2, .phase⟩, ⟨3, .phase⟩, ⟨4, .phase⟩, ⟨5, .phase⟩, ⟨6, .phase⟩, ⟨7, .phase⟩, ⟨8, .phase⟩, ⟨9, .phase⟩, ⟨10, .phase⟩, ⟨11, .phase⟩, ⟨12, .phase⟩, ⟨13, .phase⟩], none⟩ (v := ?_) hS4 ?_ ?_
            rotate_left
            · intro X ⟨x0, x1, x2, x3, x4⟩; go_simp; try with_reducible rfl
            simp only [Act.put, List.setIfInBounds_toArray, List.set_cons_zero, List.set_cons_succ, Array.toArray_toList]
            refine wpAnyH_ready (rs := [15]) (by kernel_rfl) (by simp) (AllReadyH.cons (o := ⟨none, .store 37 (.tmp 40) (.tmp 39), 0, "law.go:20", #[⟨14, .data⟩, ⟨13, .data⟩, ⟨13, .chain⟩, ⟨0, .phase⟩, ⟨1, .phase⟩, ⟨2, .phase⟩, ⟨3, .phase⟩, ⟨4, .phase⟩, ⟨5, .phase⟩, ⟨6, .phase⟩, ⟨7, .phase⟩, ⟨8, .phase⟩, ⟨9, .phase⟩, ⟨10, .phase⟩, ⟨11, .phase⟩, ⟨12, .phase⟩, ⟨13, .phase⟩], none⟩) rfl (fun K hK => ?_) AllReadyH.nil)
            go_simp
            have hn8 := (Below.heap_setCell w7 ⟨Bo, 4, none⟩ (.slice (some ⟨gg, 0, none⟩) (k + 1) cap') Bn (by show Bn ≠ Bo; omega)).trans hn7
            have hSt : (w7.setCell ⟨Bo, 4, none⟩ (.slice (some ⟨gg, 0, none⟩) (k + 1) cap')).cell? ⟨Bn, 0, none⟩ = some (.int .i64 nh) ∧ (w7.setCell ⟨Bo, 4, none⟩ (.slice (some ⟨gg, 0, none⟩) (k + 1) cap')).cell? ⟨Bn, 1, none⟩ = some (.int .i64 na) ∧ (w7.setCell ⟨Bo, 4, none⟩ (.slice (some ⟨gg, 0, none⟩) (k + 1) cap')).cell? ⟨Bn, 2, none⟩ = some (.int .i64 nb) ∧ (w7.setCell ⟨Bo, 4, none⟩ (.slice (some ⟨gg, 0, none⟩) (k + 1) cap')).cell? ⟨Bn, 3, none⟩ = some (.int .i64 nlo) ∧ (w7.setCell ⟨Bo, 4, none⟩ (.slice (some ⟨gg, 0, none⟩) (k + 1) cap')).cell? ⟨Bn, 4, none⟩ = some (.int .i64 nhi) := by simp only [World.cell?, hn8]; simp
            refine hK.out _ _ (hSt) (fun hS5 => ?_)
            clear hS4 hK K
            refine wpAnyH_done (by kernel_rfl) ?_ _
            clear hS5
            go_wp2_with fail
            go_roundw
            case rel =>
              have hs7 : ∀ j, j ≠ Bo → (w7.setCell ⟨Bo, 4, none⟩ (.slice (some ⟨gg, 0, none⟩) (k + 1) cap')).heap[j]? = w7.heap[j]? := fun j hj => Below.heap_setCell _ _ _ _ hj
              refine ⟨k + 1, by omega, by go_num, .slice (some ⟨gg, 0, none⟩) (k + 1) cap', set_slot4 HO7.out _, (hs7 _ (by omega)).trans HR7.out, (hs7 _ (by omega)).trans HI7.out, own_of_blocks HOW7.out (fun g hg => hs7 g (by have := HOW7.out.lt g hg; omega)), HB7.out.setCell (by show w.heap.size ≤ Bo; omega) _⟩
            case measure => simp [intOf]; omega
          · skip
            go_simp
            have hb6 : Below wn.heap.size wn (w5.alloc (.cells #[.int .i64 nh, .int .i64 na, .int .i64 nb, .int .i64 nlo, .int .i64 nhi] 105)) := HB5.out.alloc hq5 _
            have r4 : (w5.alloc (.cells #[.int .i64 nh, .int .i64 na, .int .i64 nb, .int .i64 nlo, .int .i64 nhi] 105)).cell? ⟨Bo, 4, none⟩ = some (.slice Av k capv) := (World.cell?_alloc_lt _ _ _ (World.block_lt_of_cell? w5 _ q4)).trans q4
            have HB6 := Lib.hid hb6
            clear hb6
            refine hK.out _ _ ((HSN.out _ HB6.out)) (fun hS2 => ?_)
            clear hS1 hK K
            refine wpAnyH_ready (rs := [1]) (by kernel_rfl) (by simp) (AllReadyH.cons (o := ⟨some 27, .load 37 (.tmp 26), 37, "law.go:20", #[⟨0, .data⟩], none⟩) rfl (fun K hK => ?_) AllReadyH.nil)
            go_simp
            refine hK.out _ _ (hS2) (fun hS3 => ?_)
            clear hS2 hK K
            refine wpAnyH_ready (rs := [13]) (by kernel_rfl) (by simp) (AllReadyH.cons (o := ⟨some 39, .call ⟨.builtin .append, #[.tmp 27, .tmp 38], #[37, 37]⟩, 37, "law.go:20", #[⟨1, .data⟩, ⟨12, .data⟩, ⟨10, .chain⟩], none⟩) rfl (fun K hK => ?_) AllReadyH.nil)
            refine step_append_lies _ (by rfl) _ _ _ (by rfl) (Bo + 1) 105 i0 _ 5 40 Try.underlying37 hi0.out hz0.out hz1.out hz2.out rfl (by omega) _ k _ (by rfl) (HOW5.out.alloc _) ⟨w5.heap.size, 0, none⟩ 1 1 [.int .i64 nh, .int .i64 na, .int .i64 nb, .int .i64 nlo, .int .i64 nhi] (by rfl) (by rfl) (World.news_of_block (cs := #[.int .i64 nh, .int .i64 na, .int .i64 nb, .int .i64 nlo, .int .i64 nhi]) (t := 105) (fr := (0, 0)) (Go.heap_alloc_new w5 _)) (by simp [Value.oneCell']) (by omega) (by unfold maxLen; omega) (by omega) (by simp; omega) (w5.heap.size + 1) (by simp) ?_
            intro gg cap' w7 hown7 hgrow hat hlt7
            have hblk : ∀ j, j < w5.heap.size → (j ≤ Bo ∨ wr.heap.size ≤ j) → w7.heap[j]? = w5.heap[j]? := fun j hj h => (hgrow.block j (by simp; omega) (fun e => by have h1 := HOW.out.lt j e.symm; have h2 := hown2 j e.symm; omega)).trans (Below.heap_alloc _ _ _ (by omega))
            have hO7 := (hblk Bo (by omega) (.inl (Nat.le_refl _))).trans HO5.out
            have s4 : w7.cell? ⟨Bo, 4, none⟩ = some (.slice Av k capv) := by simp [World.cell?, hO7]
            have sz : w7.frozen? ⟨Bo, 4, none⟩ = false := by simp [World.frozen?, hO7]
            have HO7 := Lib.hid hO7
            have HR7 := Lib.hid ((hblk Br (by omega) (.inl (by omega))).trans ((HB5.out.block Br (by omega)).trans HRn.out))
            have HI7 := Lib.hid ((hblk Bi (by omega) (.inl (by omega))).trans ((HB5.out.block Bi (by omega)).trans HIn.out))
            have hn7 := (hblk Bn (by omega) (.inr (by omega))).trans ((HB5.out.block Bn (by omega)).trans HNn.out)
            have HOW7 := Lib.hid (show w7.ownsRow (Bo + 1) 105 5 (.slice (some ⟨gg, 0, none⟩) (k + 1) cap') (k + 1) (flatN (s.ns.take (k + 1))) by rw [HTK.out, flatN_snoc]; exact hown7)
            have HB7 := Lib.hid (show Below w.heap.size w w7 from (HBn.out.trans ((HB6.out).mono HBn.out.size)).trans (below_of_grown hgrow (HOW5.out.alloc _) (by omega) (by simp; omega)))
            clear hown7 hgrow hat hlt7 hO7 hblk
            have hSs : w7.cell? ⟨Bn, 0, none⟩ = some (.int .i64 nh) ∧ w7.cell? ⟨Bn, 1, none⟩ = some (.int .i64 na) ∧ w7.cell? ⟨Bn, 2, none⟩ = some (.int .i64 nb) ∧ w7.cell? ⟨Bn, 3, none⟩ = some (.int .i64 nlo) ∧ w7.cell? ⟨Bn, 4, none⟩ = some (.int .i64 nhi) := by simp [World.cell?, hn7]
            refine hK.out _ _ (hSs) (fun hS4 => ?_)
            clear hS3 hK K
            simp only [Act.put, List.setIfInBounds_toArray, List.set_cons_zero, List.set_cons_succ, Array.toArray_toList]
            refine tkH 14 ⟨some 40, .fieldAddr 39 (.tmp 3) 3, 0, "law.go:20", #[⟨0, .phase⟩, ⟨1, .phase⟩, ⟨2, .phase⟩, ⟨3, .phase⟩, ⟨4, .phase⟩, ⟨5, .phase⟩, ⟨6, .phase⟩, ⟨7, .phase⟩, ⟨8, .phase⟩, ⟨9, .phase⟩, ⟨10, .phase⟩, ⟨11, .phase⟩, ⟨12, .phase⟩, ⟨13, .phase⟩], none⟩ (v := ?_) hS4 ?_ ?_
            rotate_left
            · intro X ⟨x0, x1, x2, x3, x4⟩; go_simp; try with_reducible rfl
            simp only [Act.put, List.setIfInBounds_toArray, List.set_cons_zero, List.set_cons_succ, Array.toArray_toList]
            refine wpAnyH_ready (rs := [15]) (by kernel_rfl) (by simp) (AllReadyH.cons (o := ⟨none, .store 37 (.tmp 40) (.tmp 39), 0, "law.go:20", #[⟨14, .data⟩, ⟨13, .data⟩, ⟨13, .chain⟩, ⟨0, .phase⟩, ⟨1, .phase⟩, ⟨2, .phase⟩, ⟨3, .phase⟩, ⟨4, .phase⟩, ⟨5, .phase⟩, ⟨6, .phase⟩, ⟨7, .phase⟩, ⟨8, .phase⟩, ⟨9, .phase⟩, ⟨10, .phase⟩, ⟨11, .phase⟩, ⟨12, .phase⟩, ⟨13, .phase⟩], none⟩) rfl (fun K hK => ?_) AllReadyH.nil)
            go_simp
            have hn8 := (Below.heap_setCell w7 ⟨Bo, 4, none⟩ (.slice (some ⟨gg, 0, none⟩) (k + 1) cap') Bn (by show Bn ≠ Bo; omega)).trans hn7
            have hSt : (w7.setCell ⟨Bo, 4, none⟩ (.slice (some ⟨gg, 0, none⟩) (k + 1) cap')).cell? ⟨Bn, 0, none⟩ = some (.int .i64 nh) ∧ (w7.setCell ⟨Bo, 4, none⟩ (.slice (some ⟨gg, 0, none⟩) (k + 1) cap')).cell? ⟨Bn, 1, none⟩ = some (.int .i64 na) ∧ (w7.setCell ⟨Bo, 4, none⟩ (.slice (some ⟨gg, 0, none⟩) (k + 1) cap')).cell? ⟨Bn, 2, none⟩ = some (.int .i64 nb) ∧ (w7.setCell ⟨Bo, 4, none⟩ (.slice (some ⟨gg, 0, none⟩) (k + 1) cap')).cell? ⟨Bn, 3, none⟩ = some (.int .i64 nlo) ∧ (w7.setCell ⟨Bo, 4, none⟩ (.slice (some ⟨gg, 0, none⟩) (k + 1) cap')).cell? ⟨Bn, 4, none⟩ = some (.int .i64 nhi) := by simp only [World.cell?, hn8]; simp
            refine hK.out _ _ (hSt) (fun hS5 => ?_)
            clear hS4 hK K
            refine wpAnyH_done (by kernel_rfl) ?_ _
            clear hS5
            go_wp2_with fail
            go_roundw
            case rel =>
              have hs7 : ∀ j, j ≠ Bo → (w7.setCell ⟨Bo, 4, none⟩ (.slice (some ⟨gg, 0, none⟩) (k + 1) cap')).heap[j]? = w7.heap[j]? := fun j hj => Below.heap_setCell _ _ _ _ hj
              refine ⟨k + 1, by omega, by go_num, .slice (some ⟨gg, 0, none⟩) (k + 1) cap', set_slot4 HO7.out _, (hs7 _ (by omega)).trans HR7.out, (hs7 _ (by omega)).trans HI7.out, own_of_blocks HOW7.out (fun g hg => hs7 g (by have := HOW7.out.lt g hg; omega)), HB7.out.setCell (by show w.heap.size ≤ Bo; omega) _⟩
            case measure => simp [intOf]; omega
      · have hlt' : decide ((k : Int) < (s.ns.length : Int)) = false := by simpa using hlt
        obtain rfl : k = s.ns.length := by omega
        rw [List.take_length] at hown
        obtain ⟨A', cap', rfl, hang⟩ := NtsAt.of_own hown
        have c0 : wr.cell? ⟨Bo, 0, none⟩ = some (.int .i64 s.cap) := by simp [World.cell?, hO]
        have c1 : wr.cell? ⟨Bo, 1, none⟩ = some (.int .i64 s.can) := by simp [World.cell?, hO]
        have c2 : wr.cell? ⟨Bo, 2, none⟩ = some (.int .i64 s.sl) := by simp [World.cell?, hO]
        have c3 : wr.cell? ⟨Bo, 3, none⟩ = some (.int .i64 s.sh) := by simp [World.cell?, hO]
        have c4 : wr.cell? ⟨Bo, 4, none⟩ = some (.slice A' s.ns.length cap') := by simp [World.cell?, hO]
        have r0 : wr.cell? ⟨Br, 0, none⟩ = some (.int .i64 0) := by simp [World.cell?, hR]
        have r1 : wr.cell? ⟨Br, 1, none⟩ = some (.int .i64 0) := by simp [World.cell?, hR]
        have r2 : wr.cell? ⟨Br, 2, none⟩ = some (.int .i64 0) := by simp [World.cell?, hR]
        have r3 : wr.cell? ⟨Br, 3, none⟩ = some (.int .i64 0) := by simp [World.cell?, hR]
        have r4 : wr.cell? ⟨Br, 4, none⟩ = some (.slice none 0 0) := by simp [World.cell?, hR]
        have z0 : wr.frozen? ⟨Br, 0, none⟩ = false := by simp [World.frozen?, hR]
        have z1 : wr.frozen? ⟨Br, 1, none⟩ = false := by simp [World.frozen?, hR]
        have z2 : wr.frozen? ⟨Br, 2, none⟩ = false := by simp [World.frozen?, hR]
        have z3 : wr.frozen? ⟨Br, 3, none⟩ = false := by simp [World.frozen?, hR]
        have z4 : wr.frozen? ⟨Br, 4, none⟩ = false := by simp [World.frozen?, hR]
        have HR := Lib.hid hR
        have HBE := Lib.hid hBe
        have HANG := Lib.hid hang
        have HOWN := Lib.hid hown
        clear hR hBe hang hown hI
        go_wp2_with fail
        have hq := set_five HR.out (.int .i64 s.cap) (.int .i64 s.can) (.int .i64 s.sl) (.int .i64 s.sh) (.slice A' s.ns.length cap')
        have hb2 : Below w.heap.size w (((((wr.setCell ⟨Br, 0, none⟩ (.int .i64 s.cap)).setCell ⟨Br, 1, none⟩ (.int .i64 s.can)).setCell ⟨Br, 2, none⟩ (.int .i64 s.sl)).setCell ⟨Br, 3, none⟩ (.int .i64 s.sh)).setCell ⟨Br, 4, none⟩ (.slice A' s.ns.length cap')) := ((((HBE.out.setCell o1 _).setCell o1 _).setCell o1 _).setCell o1 _).setCell o1 _
        have hoth : ∀ j, j ≠ Br → (((((wr.setCell ⟨Br, 0, none⟩ (.int .i64 s.cap)).setCell ⟨Br, 1, none⟩ (.int .i64 s.can)).setCell ⟨Br, 2, none⟩ (.int .i64 s.sl)).setCell ⟨Br, 3, none⟩ (.int .i64 s.sh)).setCell ⟨Br, 4, none⟩ (.slice A' s.ns.length cap')).heap[j]? = wr.heap[j]? := fun j hj => (Below.heap_setCell _ _ _ _ hj).trans ((Below.heap_setCell _ _ _ _ hj).trans ((Below.heap_setCell _ _ _ _ hj).trans ((Below.heap_setCell _ _ _ _ hj).trans (Below.heap_setCell _ _ _ _ hj))))
        generalize (((((wr.setCell ⟨Br, 0, none⟩ (.int .i64 s.cap)).setCell ⟨Br, 1, none⟩ (.int .i64 s.can)).setCell ⟨Br, 2, none⟩ (.int .i64 s.sl)).setCell ⟨Br, 3, none⟩ (.int .i64 s.sh)).setCell ⟨Br, 4, none⟩ (.slice A' s.ns.length cap')) = V at hq hb2 hoth ⊢
        obtain ⟨A2, cap2, he2, hA2⟩ := NtsAt.of_own (own_of_blocks HOWN.out (fun g hg => hoth g (by have := HOWN.out.lt g hg; omega)))
        cases he2
        have q0 : V.cell? ⟨Br, 0, none⟩ = some (.int .i64 s.cap) := by simp [World.cell?, hq]
        have q1 : V.cell? ⟨Br, 1, none⟩ = some (.int .i64 s.can) := by simp [World.cell?, hq]
        have q2 : V.cell? ⟨Br, 2, none⟩ = some (.int .i64 s.sl) := by simp [World.cell?, hq]
        have q3 : V.cell? ⟨Br, 3, none⟩ = some (.int .i64 s.sh) := by simp [World.cell?, hq]
        have q4 : V.cell? ⟨Br, 4, none⟩ = some (.slice A' s.ns.length cap') := by simp [World.cell?, hq]
        exact bodyPost_ret (v := .agg #[.int .i64 s.cap, .int .i64 s.can, .int .i64 s.sl, .int .i64 s.sh, .slice A' s.ns.length cap']) (by simp [results, Try.results19, go_sem, q0, q1, q2, q3, q4]) rfl ⟨A', cap', rfl, hA2, hb2⟩
end Go.Proofs.Ytefhdcecbmgljaa

/-
  LampMore: the walk.
-/
import Derived.Test.YtefhdcecbmgljaaOilC
import Derived.Deep.CutBlock
import Derived.Test.YtefhdcecbmgljaaRefG
set_option linter.all false
namespace Go.Proofs.Ytefhdcecbmgljaa
open Go.RowKit Go.WalkArith


/-- What is compared: the store and the plan, with more of something. -/
structure MFin (s : St) (c k : List Int) (what : Int) (sl sh : Int) (c' k' : List Int) : Prop where
  ok : planL (reS s sl sh) c' k' = 0
  up : what % 3 ≠ 2 → MoreP s (atL c) (atL k) sl sh (atL c') (atL k')
  dn : what % 3 = 2 → sl = s.sl ∧ sh = s.sh ∧ MoreP s (atL c') (atL k') s.sl s.sh (atL c) (atL k)
theorem re_self (s : St) : reS s s.sl s.sh = s := rfl
theorem atL_set {l : List Int} {i j : Nat} {x : Int} (hi : i < l.length) : atL (l.set i x) j = if j = i then x else atL l j := by
  unfold atL
  simp only [List.getD_eq_getElem?_getD, List.getElem?_set]
  by_cases e : j = i
  · subst e; simp [hi]
  · rw [if_neg (fun h => e h.symm), if_neg e]
theorem re_ok {s : St} {sl sh : Int} {c k c' k' : List Int} (h : planL s c k = 0) (h0 : 0 ≤ sl) (h1 : sl ≤ sh) (h2 : sh ≤ s.cap) (hl : c'.length = s.ns.length) (hl' : k'.length = s.ns.length) (hc : ∀ i, i < s.ns.length → 0 ≤ atL c' i ∧ atL c' i ≤ 2) (hk : ∀ i, i < s.ns.length → (ntAt s i).a ≤ atL k' i ∧ atL k' i ≤ (ntAt s i).b) : planL (reS s sl sh) c' k' = 0 := by
  obtain ⟨a, _, _, _⟩ := planL_zero.1 h
  exact planL_zero.2 ⟨⟨a.c0, a.c1, a.k0, a.k1, h0, h1, h2, a.pos, a.len, a.nt⟩, hl, hl', hc, hk⟩
theorem mfin_sh {s : St} {c k : List Int} {what by_ : Int} (h : planL s c k = 0) (hb : 0 ≤ by_) (hw : what % 3 = 0) : MFin s c k what (min (min s.cap (s.sh + by_)) (s.sl + by_)) (min s.cap (s.sh + by_)) c k := by
  obtain ⟨a, l1, l2, p⟩ := planL_zero.1 h
  have := a.s0; have := a.s1; have := a.s2
  exact ⟨re_ok h (by omega) (by omega) (by omega) l1 l2 p.c p.k, fun _ => ⟨by omega, by omega, fun i hi => ⟨Int.le_refl _, Int.le_refl _⟩⟩, fun h => by omega⟩
theorem mfin_can {s : St} {c k : List Int} {what : Int} {i : Nat} (h : planL s c k = 0) (hw : what % 3 = 1) (hi : i < s.ns.length) : MFin s c k what s.sl s.sh (c.set i (min 2 (atL c i + 1))) k := by
  obtain ⟨a, l1, l2, p⟩ := planL_zero.1 h
  refine ⟨re_ok h a.s0 a.s1 a.s2 (by simp [l1]) l2 (fun j hj => ?_) p.k, fun _ => ⟨Int.le_refl _, Int.le_refl _, fun j hj => ⟨?_, Int.le_refl _⟩⟩, fun h => by omega⟩
  · rw [atL_set (by omega)]
    have := p.c j hj
    split
    · rename_i e; subst e; omega
    · exact this
  · rw [atL_set (by omega)]
    have := p.c j hj
    split
    · rename_i e; subst e; omega
    · exact Int.le_refl _
theorem mfin_wick {s : St} {c k : List Int} {what : Int} {i : Nat} (h : planL s c k = 0) (hw : what % 3 = 2) (hi : i < s.ns.length) : MFin s c k what s.sl s.sh c (k.set i (min (ntAt s i).b (atL k i + 1))) := by
  obtain ⟨a, l1, l2, p⟩ := planL_zero.1 h
  refine ⟨re_ok h a.s0 a.s1 a.s2 l1 (by simp [l2]) p.c (fun j hj => ?_), fun h => by omega, fun _ => ⟨rfl, rfl, Int.le_refl _, Int.le_refl _, fun j hj => ⟨Int.le_refl _, ?_⟩⟩⟩
  · rw [atL_set (by omega)]
    have := p.k j hj
    split
    · rename_i e; subst e; omega
    · exact this
  · rw [atL_set (by omega)]
    have := p.k j hj
    split
    · rename_i e; subst e; omega
    · exact Int.le_refl _
/-- What follows from it. -/
structure MCmp (s s' : St) (c k c' k' : List Int) (R : Int) : Prop where
  up : R ≠ 2 → (∀ L H L' H', IsRng s (atL c) (atL k) [] L H → IsRng s' (atL c') (atL k') [] L' H' → ∀ i, i < s.ns.length → L i ≤ L' i ∧ H i ≤ H' i) ∧ ∀ x ∈ darkL s' (atL c') (atL k'), x ∈ darkL s (atL c) (atL k)
  dn : R = 2 → (∀ L H L' H', IsRng s (atL c) (atL k) [] L H → IsRng s' (atL c') (atL k') [] L' H' → ∀ i, i < s.ns.length → L' i ≤ L i ∧ H' i ≤ H i) ∧ ∀ x ∈ darkL s (atL c) (atL k), x ∈ darkL s' (atL c') (atL k')
theorem MFin.cmp {s : St} {c k c' k' : List Int} {what sl sh : Int} (h0 : planL s c k = 0) (h : MFin s c k what sl sh c' k') : MCmp s (reS s sl sh) c k c' k' (what % 3) := by
  obtain ⟨a, _, _, p⟩ := planL_zero.1 h0
  obtain ⟨a', _, _, p'⟩ := planL_zero.1 h.ok
  refine ⟨fun hw => ⟨fun L H L' H' r r' i hi => more_rng a a' p' (h.up hw) r r' hi, fun x hx => more_dark a a' p' (h.up hw) hx⟩, fun hw => ?_⟩
  obtain ⟨rfl, rfl, m⟩ := h.dn hw
  exact ⟨fun L H L' H' r r' i hi => more_rng (s := s) (c := atL c') (k := atL k') (sl := s.sl) (sh := s.sh) a a p m r' r hi, fun x hx => more_dark (s := s) (c := atL c') (k := atL k') (sl := s.sl) (sh := s.sh) a a p m hx⟩
theorem sub_of {a b : List Int} (h : ∀ x ∈ a, x ∈ b) : subB a b = true := List.all_eq_true.2 fun x hx => by simpa [hasB] using h x hx
theorem set_five' {w : World} {B t : Nat} {x0 x1 x2 x3 x4 : Value} {fr : Nat × Nat} (h : w.heap[B]? = some (.cells #[x0, x1, x2, x3, x4] t fr)) (y0 y1 y2 y3 y4 : Value) :
    (((((w.setCell ⟨B, 0, none⟩ y0).setCell ⟨B, 1, none⟩ y1).setCell ⟨B, 2, none⟩ y2).setCell ⟨B, 3, none⟩ y3).setCell ⟨B, 4, none⟩ y4).heap[B]? = some (.cells #[y0, y1, y2, y3, y4] t fr) := by
  obtain ⟨hlt, hg⟩ := Array.getElem?_eq_some_iff.1 h
  simp [World.setCell, hlt, Array.getElem_modify, hg]
theorem set_s3 {w : World} {B t : Nat} {x0 x1 x2 x3 x4 : Value} {fr : Nat × Nat} (h : w.heap[B]? = some (.cells #[x0, x1, x2, x3, x4] t fr)) (y : Value) : (w.setCell ⟨B, 3, none⟩ y).heap[B]? = some (.cells #[x0, x1, x2, y, x4] t fr) := by
  obtain ⟨hlt, hg⟩ := Array.getElem?_eq_some_iff.1 h
  simp [World.setCell, hlt, Array.getElem_modify, hg]
theorem set_s2 {w : World} {B t : Nat} {x0 x1 x2 x3 x4 : Value} {fr : Nat × Nat} (h : w.heap[B]? = some (.cells #[x0, x1, x2, x3, x4] t fr)) (y : Value) : (w.setCell ⟨B, 2, none⟩ y).heap[B]? = some (.cells #[x0, x1, y, x3, x4] t fr) := by
  obtain ⟨hlt, hg⟩ := Array.getElem?_eq_some_iff.1 h
  simp [World.setCell, hlt, Array.getElem_modify, hg]
theorem min_if (a b : Int) : (if b < a then b else a) = min a b := by split <;> omega
/-- x and y, as they are made. -/
def MadeXY (s : St) (A : Option Addr) (cp : Nat) (sl sh : Int) (c k : List Int) (w1 : World) (Bx By g1 c1 g2 c2 : Nat) (W : World) : Prop :=
  W.heap[Bx]? = some (.cells #[.int .i64 s.cap, .int .i64 s.can, .int .i64 sl, .int .i64 sh, .slice A s.ns.length cp] 26 (0, 0)) ∧ W.heap[By]? = some (.cells #[.slice (some ⟨g1, 0, none⟩) c.length c1, .slice (some ⟨g2, 0, none⟩) k.length c2] 29 (0, 0)) ∧ LstAt W g1 c1 c ∧ LstAt W g2 c2 k ∧ g1 ≠ g2 ∧ w1.heap.size ≤ Bx ∧ w1.heap.size ≤ By ∧ w1.heap.size ≤ g1 ∧ w1.heap.size ≤ g2 ∧ Below w1.heap.size w1 W
theorem MadeXY.keep {s : St} {A : Option Addr} {cp : Nat} {sl sh : Int} {c k : List Int} {w1 : World} {Bx By g1 c1 g2 c2 : Nat} {W W' : World} {B : Nat} (h : MadeXY s A cp sl sh c k w1 Bx By g1 c1 g2 c2 W) (hb : Below B W W') (hB : W.heap.size ≤ B) : MadeXY s A cp sl sh c k w1 Bx By g1 c1 g2 c2 W' := by
  obtain ⟨h1, h2, h3, h4, h5, h6, h7, h8, h9, h10⟩ := h
  have l1 := (Array.getElem?_eq_some_iff.1 h1).1
  have l2 := (Array.getElem?_eq_some_iff.1 h2).1
  exact ⟨(hb.block Bx (by omega)).trans h1, (hb.block By (by omega)).trans h2, h3.keep hb hB, h4.keep hb hB, h5, h6, h7, h8, h9, h10.trans (hb.mono (Nat.le_trans h10.size hB))⟩
theorem MadeXY.drew {s : St} {A : Option Addr} {cp : Nat} {sl sh : Int} {c k : List Int} {w1 : World} {Bx By g1 c1 g2 c2 : Nat} {W : World} (h : MadeXY s A cp sl sh c k w1 Bx By g1 c1 g2 c2 W) : MadeXY s A cp sl sh c k w1 Bx By g1 c1 g2 c2 W.drew := h.keep ((Below.refl _ _).drew) (Nat.le_refl _)
section
variable {s : St} {A : Option Addr} {cp : Nat} {sl sh : Int} {c k : List Int} {w1 : World} {Bx By g1 c1 g2 c2 : Nat} {W : World}
theorem MadeXY.below (h : MadeXY s A cp sl sh c k w1 Bx By g1 c1 g2 c2 W) : Below w1.heap.size w1 W := h.2.2.2.2.2.2.2.2.2
theorem MadeXY.cells (h : MadeXY s A cp sl sh c k w1 Bx By g1 c1 g2 c2 W) : (W.cell? ⟨Bx, 0, none⟩ = some (.int .i64 s.cap) ∧ W.cell? ⟨Bx, 1, none⟩ = some (.int .i64 s.can) ∧ W.cell? ⟨Bx, 2, none⟩ = some (.int .i64 sl) ∧ W.cell? ⟨Bx, 3, none⟩ = some (.int .i64 sh) ∧ W.cell? ⟨Bx, 4, none⟩ = some (.slice A s.ns.length cp)) ∧ W.cell? ⟨By, 0, none⟩ = some (.slice (some ⟨g1, 0, none⟩) c.length c1) ∧ W.cell? ⟨By, 1, none⟩ = some (.slice (some ⟨g2, 0, none⟩) k.length c2) :=
  ⟨cells5 h.1, cells2 h.2.1⟩
theorem MadeXY.soft (h : MadeXY s A cp sl sh c k w1 Bx By g1 c1 g2 c2 W) (j : Nat) : W.frozen? ⟨Bx, j, none⟩ = false := by simp [World.frozen?, h.1]
theorem MadeXY.shl (h : MadeXY s A cp sl sh c k w1 Bx By g1 c1 g2 c2 W) (x : Int) : MadeXY s A cp sl x c k w1 Bx By g1 c1 g2 c2 (W.setCell ⟨Bx, 3, none⟩ (.int .i64 x)) := by
  obtain ⟨h1, h2, h3, h4, h5, h6, h7, h8, h9, h10⟩ := h
  exact ⟨set_s3 h1 _, (Below.heap_setCell _ _ _ _ (block_ne h2 h1 (by decide))).trans h2, h3.other (h3.ne h1 (by decide)), h4.other (h4.ne h1 (by decide)), h5, h6, h7, h8, h9, h10.setCell h6 _⟩
theorem MadeXY.sll (h : MadeXY s A cp sl sh c k w1 Bx By g1 c1 g2 c2 W) (x : Int) : MadeXY s A cp x sh c k w1 Bx By g1 c1 g2 c2 (W.setCell ⟨Bx, 2, none⟩ (.int .i64 x)) := by
  obtain ⟨h1, h2, h3, h4, h5, h6, h7, h8, h9, h10⟩ := h
  exact ⟨set_s2 h1 _, (Below.heap_setCell _ _ _ _ (block_ne h2 h1 (by decide))).trans h2, h3.other (h3.ne h1 (by decide)), h4.other (h4.ne h1 (by decide)), h5, h6, h7, h8, h9, h10.setCell h6 _⟩
theorem MadeXY.can (h : MadeXY s A cp sl sh c k w1 Bx By g1 c1 g2 c2 W) (i : Nat) (x : Int) : MadeXY s A cp sl sh (c.set i x) k w1 Bx By g1 c1 g2 c2 (W.setCell ⟨g1, i, none⟩ (.int .i64 x)) := by
  obtain ⟨h1, h2, h3, h4, h5, h6, h7, h8, h9, h10⟩ := h
  exact ⟨(Below.heap_setCell _ _ _ _ (h3.ne h1 (by decide)).symm).trans h1, by rw [List.length_set]; exact (Below.heap_setCell _ _ _ _ (h3.ne h2 (by decide)).symm).trans h2, h3.put i x, h4.other h5.symm, h5, h6, h7, h8, h9, h10.setCell h8 _⟩
theorem MadeXY.wick (h : MadeXY s A cp sl sh c k w1 Bx By g1 c1 g2 c2 W) (i : Nat) (x : Int) : MadeXY s A cp sl sh c (k.set i x) w1 Bx By g1 c1 g2 c2 (W.setCell ⟨g2, i, none⟩ (.int .i64 x)) := by
  obtain ⟨h1, h2, h3, h4, h5, h6, h7, h8, h9, h10⟩ := h
  exact ⟨(Below.heap_setCell _ _ _ _ (h4.ne h1 (by decide)).symm).trans h1, by rw [List.length_set]; exact (Below.heap_setCell _ _ _ _ (h4.ne h2 (by decide)).symm).trans h2, h3.other h5, h4.put i x, h5, h6, h7, h8, h9, h10.setCell h9 _⟩
end
def MXY (s : St) (A : Option Addr) (cp : Nat) (c k : List Int) (w1 : World) (x y : Value) (W : World) : Prop :=
  ∃ Bx By g1 c1 g2 c2, x = .pointer (some ⟨Bx, 0, none⟩) ∧ y = .pointer (some ⟨By, 0, none⟩) ∧ MadeXY s A cp s.sl s.sh c k w1 Bx By g1 c1 g2 c2 W
def MSw (s : St) (A : Option Addr) (cp : Nat) (c k : List Int) (what : Int) (w1 : World) (Bx By : Nat) (W : World) : Prop :=
  ∃ sl sh c' k' g1 c1 g2 c2, MFin s c k what sl sh c' k' ∧ MadeXY s A cp sl sh c' k' w1 Bx By g1 c1 g2 c2 W
def MRes (n : Nat) (w0 : World) (a b c d : Value) (W : World) : Prop :=
  ∃ A1 c1 A2 c2 L H L' H' A3 c3 A4 c4 l l', a = .slice A1 n c1 ∧ b = .slice A2 n c2 ∧ c = .slice A3 (List.length l) c3 ∧ d = .slice A4 (List.length l') c4 ∧ RngsAt W (.slice A1 n c1) n L H ∧ RngsAt W (.slice A2 n c2) n L' H' ∧ IntsAt W (.slice A3 (List.length l) c3) l ∧ IntsAt W (.slice A4 (List.length l') c4) l' ∧ (∀ i, i < n → L i ≤ L' i ∧ H i ≤ H' i) ∧ subB l' l = true ∧ l.length ≤ 6 ∧ l'.length ≤ 6 ∧ Below w0.heap.size w0 W
def MLRel (n : Nat) (w0 : World) (i : Value) (wr : World) : Prop := ∃ k : Nat, k ≤ n ∧ i = .int .i64 k ∧ Below w0.heap.size w0 wr

set_option maxRecDepth 100000 in
set_option maxHeartbeats 8000000 in
theorem more_walk (s : St) (A : Option Addr) (cp : Nat) (Ac Ak : Option Addr) (cc ck : Nat) (c k : List Int) (what by_ which : Int) (w : World) (hA : NtsAt w A s.ns) (hc : IntsAt w (.slice Ac c.length cc) c) (hk : IntsAt w (.slice Ak k.length ck) k) (hwa : 0 ≤ what) (hwb : what ≤ 255) (hby : 0 ≤ by_) (hby' : by_ ≤ 255) (hwi : 0 ≤ which) (hwi' : which ≤ 255) (n1 : NilOk Ac cc) (n2 : NilOk Ak ck) :
    Calls Try.prog 11 #[.agg #[.int .i64 s.cap, .int .i64 s.can, .int .i64 s.sl, .int .i64 s.sh, .slice A s.ns.length cp], .agg #[.slice Ac c.length cc, .slice Ak k.length ck], .int .u8 what, .int .u8 by_, .int .u8 which] w fun e w' => e = .returned (.bool true) ∧ Below w.heap.size w w' := by
  have HA := Lib.hid hA
  have HC := Lib.hid hc
  have HK := Lib.hid hk
  clear hA hc hk
  have hB0 : Below w.heap.size w ((w.alloc (.cells #[.int .i64 s.cap, .int .i64 s.can, .int .i64 s.sl, .int .i64 s.sh, .slice A s.ns.length cp] 26)).alloc (.cells #[.slice Ac c.length cc, .slice Ak k.length ck] 29)) := ((Below.refl _ _).alloc (Nat.le_refl _) _).alloc (by simp) _
  have hn0 : ((w.alloc (.cells #[.int .i64 s.cap, .int .i64 s.can, .int .i64 s.sl, .int .i64 s.sh, .slice A s.ns.length cp] 26)).alloc (.cells #[.slice Ac c.length cc, .slice Ak k.length ck] 29)).heap[w.heap.size]? = some (.cells #[.int .i64 s.cap, .int .i64 s.can, .int .i64 s.sl, .int .i64 s.sh, .slice A s.ns.length cp] 26 (0, 0)) := (Below.heap_alloc _ _ _ (by simp <;> omega)).trans (heap_new_at _ _ _ rfl)
  have hn1 : ((w.alloc (.cells #[.int .i64 s.cap, .int .i64 s.can, .int .i64 s.sl, .int .i64 s.sh, .slice A s.ns.length cp] 26)).alloc (.cells #[.slice Ac c.length cc, .slice Ak k.length ck] 29)).heap[w.heap.size + 1]? = some (.cells #[.slice Ac c.length cc, .slice Ak k.length ck] 29 (0, 0)) := heap_new_at _ _ _ (by simp)
  have HB1 := Lib.hid hB0
  have NBs1 := Lib.hid hn0
  have NBp1 := Lib.hid hn1
  clear hB0 hn0 hn1
  go_enter Try.func11, Try.ntmps11
  go_wp2_with fail
  generalize ((w.alloc (.cells #[.int .i64 s.cap, .int .i64 s.can, .int .i64 s.sl, .int .i64 s.sh, .slice A s.ns.length cp] 26)).alloc (.cells #[.slice Ac c.length cc, .slice Ak k.length ck] 29)) = w1 at HB1 NBs1 NBp1 ⊢
  obtain ⟨Bp, hBp⟩ : ∃ Bp, w.heap.size + 1 = Bp := ⟨_, rfl⟩
  obtain ⟨Bs, hBs⟩ : ∃ Bs, w.heap.size = Bs := ⟨_, rfl⟩
  have oBp : w.heap.size ≤ Bp := by omega
  have oBsBp : Bs < Bp := by omega
  have oBs : w.heap.size ≤ Bs := by omega
  rw [hBp] at NBp1 ⊢
  rw [hBs] at NBs1 ⊢
  clear hBs hBp
  obtain ⟨cBs0_1, cBs1_1, cBs2_1, cBs3_1, cBs4_1⟩ := cells5 NBs1.out
  obtain ⟨cBp0_1, cBp1_1⟩ := cells2 NBp1.out
  have hrd := Lib.hid (ready_any s A cp Ac Ak cc ck c k w1 (HA.out.keep HB1.out (Nat.le_refl _)) (HC.out.keep HB1.out (Nat.le_refl _)) (HK.out.keep HB1.out (Nat.le_refl _)))
  cases hR : readyB s c k with
  | false =>
    rw [hR] at hrd
    clear hR
    go_wp2_with fail
    refine (hrd.out).mono ?_
    rintro e w2 ⟨rfl, hb⟩
    have HB2 := Lib.hid ((HB1.out).trans (hb.mono (HB1.out).size))
    have NBs2 := Lib.hid ((hb.block Bs (Array.getElem?_eq_some_iff.1 NBs1.out).1).trans NBs1.out)
    have NBp2 := Lib.hid ((hb.block Bp (Array.getElem?_eq_some_iff.1 NBp1.out).1).trans NBp1.out)
    clear HB1 NBs1 NBp1 cBs0_1 cBs1_1 cBs2_1 cBs3_1 cBs4_1 cBp0_1 cBp1_1  hb hrd
    obtain ⟨cBs0_2, cBs1_2, cBs2_2, cBs3_2, cBs4_2⟩ := cells5 NBs2.out
    obtain ⟨cBp0_2, cBp1_2⟩ := cells2 NBp2.out
    go_wp2_with fail
    refine (awake_any _).mono ?_
    rintro e w3 ⟨rfl, hb⟩
    have HB3 := Lib.hid ((HB2.out).trans (hb.mono (HB2.out).size))
    have NBs3 := Lib.hid ((hb.block Bs (Array.getElem?_eq_some_iff.1 NBs2.out).1).trans NBs2.out)
    have NBp3 := Lib.hid ((hb.block Bp (Array.getElem?_eq_some_iff.1 NBp2.out).1).trans NBp2.out)
    clear HB2 NBs2 NBp2 cBs0_2 cBs1_2 cBs2_2 cBs3_2 cBs4_2 cBp0_2 cBp1_2  hb 
    obtain ⟨cBs0_3, cBs1_3, cBs2_3, cBs3_3, cBs4_3⟩ := cells5 NBs3.out
    obtain ⟨cBp0_3, cBp1_3⟩ := cells2 NBp3.out
    go_wp2_with fail
    go_ret
    exact ⟨rfl, HB3.out⟩
  | true =>
    rw [hR] at hrd
    have h0 := readyB_true hR
    clear hR
    go_wp2_with fail
    refine (hrd.out).mono ?_
    rintro e w2 ⟨rfl, hb⟩
    have HB2 := Lib.hid ((HB1.out).trans (hb.mono (HB1.out).size))
    have NBs2 := Lib.hid ((hb.block Bs (Array.getElem?_eq_some_iff.1 NBs1.out).1).trans NBs1.out)
    have NBp2 := Lib.hid ((hb.block Bp (Array.getElem?_eq_some_iff.1 NBp1.out).1).trans NBp1.out)
    clear HB1 NBs1 NBp1 cBs0_1 cBs1_1 cBs2_1 cBs3_1 cBs4_1 cBp0_1 cBp1_1  hb hrd
    obtain ⟨cBs0_2, cBs1_2, cBs2_2, cBs3_2, cBs4_2⟩ := cells5 NBs2.out
    obtain ⟨cBp0_2, cBp1_2⟩ := cells2 NBp2.out
    obtain ⟨l6, lc, lk⟩ := plan_lens s c k h0
    obtain ⟨hOK, -, -, hPL⟩ := planL_zero.1 h0
    have hpos := hOK.pos
    have H0 := Lib.hid h0
    have HOK := Lib.hid hOK
    have HPL := Lib.hid hPL
    have cpos : 0 < c.length := by omega
    have kpos : 0 < k.length := by omega
    have c9 : c.length ≤ 1000000 := by omega
    have k9 : k.length ≤ 1000000 := by omega
    have HLC := Lib.hid lc
    have HLK := Lib.hid lk
    clear h0 hOK hPL lc lk
    go_upto_region 3 with fail
    go_cut [11, 12] from 28 to 35 (MXY s A cp c k w2)
    case first =>
      have hS : ∀ X, Below w2.heap.size w2 X → X.cell? ⟨Bs, 0, none⟩ = some (.int .i64 s.cap) ∧ X.cell? ⟨Bs, 1, none⟩ = some (.int .i64 s.can) ∧ X.cell? ⟨Bs, 2, none⟩ = some (.int .i64 s.sl) ∧ X.cell? ⟨Bs, 3, none⟩ = some (.int .i64 s.sh) ∧ X.cell? ⟨Bs, 4, none⟩ = some (.slice A s.ns.length cp) ∧ X.cell? ⟨Bp, 0, none⟩ = some (.slice Ac c.length cc) ∧ X.cell? ⟨Bp, 1, none⟩ = some (.slice Ak k.length ck) := fun X hX => by
        obtain ⟨a0, a1, a2, a3, a4⟩ := cells5 ((hX.block Bs (Array.getElem?_eq_some_iff.1 NBs2.out).1).trans NBs2.out)
        obtain ⟨b0, b1⟩ := cells2 ((hX.block Bp (Array.getElem?_eq_some_iff.1 NBp2.out).1).trans NBp2.out)
        exact ⟨a0, a1, a2, a3, a4, b0, b1⟩
      have HS := Lib.hid hS
      clear hS
      obtain ⟨v0, hv0⟩ : ∃ v, w2.drew = v := ⟨_, rfl⟩
      have HX_v0 := Lib.hid (show Below w2.heap.size w2 v0 from hv0 ▸ (Below.refl _ w2).drew)
      refine wp_region_held_drew (S := fun X => X.cell? ⟨Bs, 0, none⟩ = some (.int .i64 s.cap) ∧ X.cell? ⟨Bs, 1, none⟩ = some (.int .i64 s.can) ∧ X.cell? ⟨Bs, 2, none⟩ = some (.int .i64 s.sl) ∧ X.cell? ⟨Bs, 3, none⟩ = some (.int .i64 s.sh) ∧ X.cell? ⟨Bs, 4, none⟩ = some (.slice A s.ns.length cp) ∧ X.cell? ⟨Bp, 0, none⟩ = some (.slice Ac c.length cc) ∧ X.cell? ⟨Bp, 1, none⟩ = some (.slice Ak k.length ck)) (by kernel_rfl) ((HS.out _ ((Below.refl _ w2).drew))) (fun hS0 => ?_)
      refine tkH 0 ⟨some 28, .load 26 (.tmp 5), 26, "outright.go:256", #[], none⟩ (v := ?_) hS0 ?_ ?_
      rotate_left
      · intro X ⟨x0, x1, x2, x3, x4, x5, x6⟩; go_simp; try with_reducible rfl
      simp only [Act.put, List.setIfInBounds_toArray, List.set_cons_zero, List.set_cons_succ, Array.toArray_toList]
      refine tkH 1 ⟨some 29, .fieldAddr 29 (.tmp 6) 0, 0, "outright.go:256", #[], none⟩ (v := ?_) hS0 ?_ ?_
      rotate_left
      · intro X ⟨x0, x1, x2, x3, x4, x5, x6⟩; go_simp; try with_reducible rfl
      simp only [Act.put, List.setIfInBounds_toArray, List.set_cons_zero, List.set_cons_succ, Array.toArray_toList]
      refine tkH 2 ⟨some 30, .load 27 (.tmp 29), 27, "outright.go:256", #[⟨1, .data⟩], none⟩ (v := ?_) hS0 ?_ ?_
      rotate_left
      · intro X ⟨x0, x1, x2, x3, x4, x5, x6⟩; go_simp; try with_reducible rfl
      simp only [Act.put, List.setIfInBounds_toArray, List.set_cons_zero, List.set_cons_succ, Array.toArray_toList]
      refine tkH 4 ⟨some 32, .fieldAddr 29 (.tmp 6) 1, 0, "outright.go:256", #[], none⟩ (v := ?_) hS0 ?_ ?_
      rotate_left
      · intro X ⟨x0, x1, x2, x3, x4, x5, x6⟩; go_simp; try with_reducible rfl
      simp only [Act.put, List.setIfInBounds_toArray, List.set_cons_zero, List.set_cons_succ, Array.toArray_toList]
      refine tkH 5 ⟨some 33, .load 27 (.tmp 32), 27, "outright.go:256", #[⟨4, .data⟩], none⟩ (v := ?_) hS0 ?_ ?_
      rotate_left
      · intro X ⟨x0, x1, x2, x3, x4, x5, x6⟩; go_simp; try with_reducible rfl
      simp only [Act.put, List.setIfInBounds_toArray, List.set_cons_zero, List.set_cons_succ, Array.toArray_toList]
      refine wpAnyH_ready (rs := [3, 8, 9]) (by kernel_rfl) (by simp) (AllReadyH.cons (o := ⟨some 31, .call ⟨.value (.func 34), #[.tmp 30], #[27]⟩, 27, "outright.go:256", #[⟨2, .data⟩], none⟩) rfl (fun K hK => ?_) (AllReadyH.cons (o := ⟨some 11, .alloc 26, 0, "outright.go:256", #[], none⟩) rfl (fun K hK => ?_) (AllReadyH.cons (o := ⟨some 12, .alloc 29, 0, "outright.go:256", #[], none⟩) rfl (fun K hK => ?_) AllReadyH.nil)))
      · skip
        go_simp
        refine (list_new Ac cc c v0 n1 (HC.out.keep (HB2.out.trans (HX_v0.out.mono HB2.out.size)) (Nat.le_refl _)) c9 cpos).mono ?_
        rintro e v1 ⟨g1, c1, rfl, hE, hge, hb⟩
        have HX_v1 := Lib.hid (HX_v0.out.trans (hb.mono HX_v0.out.size))
        have E1_v1 := Lib.hid hE
        have bg1 : w2.heap.size ≤ g1 := Nat.le_trans HX_v0.out.size hge
        clear hE hge hb
        go_wp2_with fail
        refine hK.out _ _ ((HS.out _ HX_v1.out)) (fun hS1 => ?_)
        clear hS0 hK K
        refine wpAnyH_ready (rs := [6, 8, 9]) (by kernel_rfl) (by simp) (AllReadyH.cons (o := ⟨some 34, .call ⟨.value (.func 34), #[.tmp 33], #[27]⟩, 27, "outright.go:256", #[⟨5, .data⟩, ⟨3, .chain⟩], none⟩) rfl (fun K hK => ?_) (AllReadyH.cons (o := ⟨some 11, .alloc 26, 0, "outright.go:256", #[], none⟩) rfl (fun K hK => ?_) (AllReadyH.cons (o := ⟨some 12, .alloc 29, 0, "outright.go:256", #[], none⟩) rfl (fun K hK => ?_) AllReadyH.nil)))
        · skip
          go_simp
          refine (list_new Ak ck k v1 n2 (HK.out.keep (HB2.out.trans (HX_v1.out.mono HB2.out.size)) (Nat.le_refl _)) k9 kpos).mono ?_
          rintro e v2 ⟨g2, c2, rfl, hE, hge, hb⟩
          have HX_v2 := Lib.hid (HX_v1.out.trans (hb.mono HX_v1.out.size))
          have E2_v2 := Lib.hid hE
          have bg2 : w2.heap.size ≤ g2 := Nat.le_trans HX_v1.out.size hge
          have g12 : g1 ≠ g2 := by have := E1_v1.out.lt; omega
          have E1_v2 := Lib.hid (E1_v1.out.keep hb (Nat.le_refl _))
          clear hE hge hb
          go_wp2_with fail
          refine hK.out _ _ ((HS.out _ HX_v2.out)) (fun hS2 => ?_)
          clear hS1 hK K
          refine tkH 7 ⟨some 35, .build 29 #[(0, .tmp 31), (1, .tmp 34)], 29, "outright.go:256", #[⟨3, .data⟩, ⟨6, .data⟩, { on := 10, ground := Ground.gcOnly Departure.lateStores }], none⟩ (v := ?_) hS2 ?_ ?_
          rotate_left
          · intro X ⟨x0, x1, x2, x3, x4, x5, x6⟩; go_simp; try with_reducible rfl
          simp only [Act.put, List.setIfInBounds_toArray, List.set_cons_zero, List.set_cons_succ, Array.toArray_toList]
          refine wpAnyH_ready (rs := [8, 9]) (by kernel_rfl) (by simp) (AllReadyH.cons (o := ⟨some 11, .alloc 26, 0, "outright.go:256", #[], none⟩) rfl (fun K hK => ?_) (AllReadyH.cons (o := ⟨some 12, .alloc 29, 0, "outright.go:256", #[], none⟩) rfl (fun K hK => ?_) AllReadyH.nil))
          · skip
            go_simp
            have hb : Below v2.heap.size v2 (v2.alloc (.cells #[.int .i64 0, .int .i64 0, .int .i64 0, .int .i64 0, .slice none 0 0] 26)) := (Below.refl _ _).alloc (Nat.le_refl _) _
            have hE := Go.heap_alloc_new v2 (.cells #[.int .i64 0, .int .i64 0, .int .i64 0, .int .i64 0, .slice none 0 0] 26)
            have bBx : w2.heap.size ≤ v2.heap.size := HX_v2.out.size
            obtain ⟨Bx, hBx⟩ : ∃ B, v2.heap.size = B := ⟨_, rfl⟩
            rw [hBx] at hE bBx
            rw [hBx]
            clear hBx
            generalize v2.alloc (.cells #[.int .i64 0, .int .i64 0, .int .i64 0, .int .i64 0, .slice none 0 0] 26) = v3 at hb hE ⊢
            have HX_v3 := Lib.hid (HX_v2.out.trans (hb.mono HX_v2.out.size))
            have EX_v3 := Lib.hid hE
            have E1_v3 := Lib.hid (E1_v2.out.keep hb (Nat.le_refl _))
            have E2_v3 := Lib.hid (E2_v2.out.keep hb (Nat.le_refl _))
            clear hE hb
            refine hK.out _ _ ((HS.out _ HX_v3.out)) (fun hS3 => ?_)
            clear hS2 hK K
            refine wpAnyH_ready (rs := [9]) (by kernel_rfl) (by simp) (AllReadyH.cons (o := ⟨some 12, .alloc 29, 0, "outright.go:256", #[], none⟩) rfl (fun K hK => ?_) AllReadyH.nil)
            go_simp
            have hb : Below v3.heap.size v3 (v3.alloc (.cells #[.slice none 0 0, .slice none 0 0] 29)) := (Below.refl _ _).alloc (Nat.le_refl _) _
            have hE := Go.heap_alloc_new v3 (.cells #[.slice none 0 0, .slice none 0 0] 29)
            have bBy : w2.heap.size ≤ v3.heap.size := HX_v3.out.size
            obtain ⟨By, hBy⟩ : ∃ B, v3.heap.size = B := ⟨_, rfl⟩
            rw [hBy] at hE bBy
            rw [hBy]
            clear hBy
            generalize v3.alloc (.cells #[.slice none 0 0, .slice none 0 0] 29) = v4 at hb hE ⊢
            have HX_v4 := Lib.hid (HX_v3.out.trans (hb.mono HX_v3.out.size))
            have EY_v4 := Lib.hid hE
            have E1_v4 := Lib.hid (E1_v3.out.keep hb (Nat.le_refl _))
            have E2_v4 := Lib.hid (E2_v3.out.keep hb (Nat.le_refl _))
            have EX_v4 := Lib.hid ((hb.block Bx (Array.getElem?_eq_some_iff.1 EX_v3.out).1).trans EX_v3.out)
            clear hE hb
            refine hK.out _ _ ((HS.out _ HX_v4.out)) (fun hS4 => ?_)
            clear hS3 hK K
            refine wpAnyH_ready (rs := [10]) (by kernel_rfl) (by simp) (AllReadyH.cons (o := ⟨none, .store 26 (.tmp 11) (.tmp 28), 0, "outright.go:256", #[⟨8, .data⟩, ⟨0, .data⟩, ⟨6, .chain⟩, ⟨0, .phase⟩, ⟨1, .textOnly .lateStores⟩, ⟨2, .textOnly .lateStores⟩, ⟨3, .textOnly .lateStoresUnsure⟩, ⟨4, .textOnly .lateStores⟩, ⟨5, .textOnly .lateStores⟩, ⟨6, .textOnly .lateStoresUnsure⟩, ⟨7, .textOnly .lateStores⟩, ⟨8, .phase⟩, ⟨9, .phase⟩], none⟩) rfl (fun K hK => ?_) AllReadyH.nil)
            have f0 : v4.frozen? ⟨Bx, 0, none⟩ = false := by simp [World.frozen?, EX_v4.out]
            have f1 : v4.frozen? ⟨Bx, 1, none⟩ = false := by simp [World.frozen?, EX_v4.out]
            have f2 : v4.frozen? ⟨Bx, 2, none⟩ = false := by simp [World.frozen?, EX_v4.out]
            have f3 : v4.frozen? ⟨Bx, 3, none⟩ = false := by simp [World.frozen?, EX_v4.out]
            have f4 : v4.frozen? ⟨Bx, 4, none⟩ = false := by simp [World.frozen?, EX_v4.out]
            have q0 : v4.cell? ⟨Bx, 0, none⟩ = some (.int .i64 0) := by simp [World.cell?, EX_v4.out]
            have q1 : v4.cell? ⟨Bx, 1, none⟩ = some (.int .i64 0) := by simp [World.cell?, EX_v4.out]
            have q2 : v4.cell? ⟨Bx, 2, none⟩ = some (.int .i64 0) := by simp [World.cell?, EX_v4.out]
            have q3 : v4.cell? ⟨Bx, 3, none⟩ = some (.int .i64 0) := by simp [World.cell?, EX_v4.out]
            have q4 : v4.cell? ⟨Bx, 4, none⟩ = some (.slice none 0 0) := by simp [World.cell?, EX_v4.out]
            go_simp
            have e1 := (E1_v4.out.ne EX_v4.out (by decide))
            have e2 := (E2_v4.out.ne EX_v4.out (by decide))
            have e3 := block_ne EY_v4.out EX_v4.out (by decide)
            have hX := set_five' EX_v4.out (.int .i64 s.cap) (.int .i64 s.can) (.int .i64 s.sl) (.int .i64 s.sh) (.slice A s.ns.length cp)
            have h1 := ((((E1_v4.out.other (i := 0) (x := .int .i64 s.cap) e1).other (i := 1) (x := .int .i64 s.can) e1).other (i := 2) (x := .int .i64 s.sl) e1).other (i := 3) (x := .int .i64 s.sh) e1).other (i := 4) (x := .slice A s.ns.length cp) e1
            have h2 := ((((E2_v4.out.other (i := 0) (x := .int .i64 s.cap) e2).other (i := 1) (x := .int .i64 s.can) e2).other (i := 2) (x := .int .i64 s.sl) e2).other (i := 3) (x := .int .i64 s.sh) e2).other (i := 4) (x := .slice A s.ns.length cp) e2
            have hY : (((((v4.setCell ⟨Bx, 0, none⟩ (.int .i64 s.cap)).setCell ⟨Bx, 1, none⟩ (.int .i64 s.can)).setCell ⟨Bx, 2, none⟩ (.int .i64 s.sl)).setCell ⟨Bx, 3, none⟩ (.int .i64 s.sh)).setCell ⟨Bx, 4, none⟩ (.slice A s.ns.length cp)).heap[By]? = some (.cells #[.slice none 0 0, .slice none 0 0] 29 (0, 0)) := ((Below.heap_setCell _ _ _ _ e3).trans ((Below.heap_setCell _ _ _ _ e3).trans ((Below.heap_setCell _ _ _ _ e3).trans ((Below.heap_setCell _ _ _ _ e3).trans (Below.heap_setCell _ _ _ _ e3))))).trans EY_v4.out
            have hb : Below w2.heap.size w2 (((((v4.setCell ⟨Bx, 0, none⟩ (.int .i64 s.cap)).setCell ⟨Bx, 1, none⟩ (.int .i64 s.can)).setCell ⟨Bx, 2, none⟩ (.int .i64 s.sl)).setCell ⟨Bx, 3, none⟩ (.int .i64 s.sh)).setCell ⟨Bx, 4, none⟩ (.slice A s.ns.length cp)) := ((((HX_v4.out.setCell bBx _).setCell bBx _).setCell bBx _).setCell bBx _).setCell bBx _
            generalize (((((v4.setCell ⟨Bx, 0, none⟩ (.int .i64 s.cap)).setCell ⟨Bx, 1, none⟩ (.int .i64 s.can)).setCell ⟨Bx, 2, none⟩ (.int .i64 s.sl)).setCell ⟨Bx, 3, none⟩ (.int .i64 s.sh)).setCell ⟨Bx, 4, none⟩ (.slice A s.ns.length cp)) = u1 at hX h1 h2 hY hb ⊢
            have HX_u1 := Lib.hid hb
            have EX_u1 := Lib.hid hX
            have EY_u1 := Lib.hid hY
            have E1_u1 := Lib.hid h1
            have E2_u1 := Lib.hid h2
            clear hb hX hY h1 h2 e1 e2 e3 f0 f1 f2 f3 f4 q0 q1 q2 q3 q4
            refine hK.out _ _ ((HS.out _ HX_u1.out)) (fun hS5 => ?_)
            clear hS4 hK K
            refine wpAnyH_ready (rs := [11]) (by kernel_rfl) (by simp) (AllReadyH.cons (o := ⟨none, .store 29 (.tmp 12) (.tmp 35), 0, "outright.go:256", #[⟨9, .data⟩, ⟨7, .data⟩, ⟨10, .chain⟩, ⟨0, .phase⟩, ⟨1, .phase⟩, ⟨2, .phase⟩, ⟨3, .phase⟩, ⟨4, .phase⟩, ⟨5, .phase⟩, ⟨6, .phase⟩, ⟨7, .phase⟩, ⟨8, .phase⟩, ⟨9, .phase⟩, ⟨10, .phase⟩], none⟩) rfl (fun K hK => ?_) AllReadyH.nil)
            have f0 : u1.frozen? ⟨By, 0, none⟩ = false := by simp [World.frozen?, EY_u1.out]
            have f1 : u1.frozen? ⟨By, 1, none⟩ = false := by simp [World.frozen?, EY_u1.out]
            have q0 : u1.cell? ⟨By, 0, none⟩ = some (.slice none 0 0) := by simp [World.cell?, EY_u1.out]
            have q1 : u1.cell? ⟨By, 1, none⟩ = some (.slice none 0 0) := by simp [World.cell?, EY_u1.out]
            go_simp
            have e1 := (E1_u1.out.ne EY_u1.out (by decide))
            have e2 := (E2_u1.out.ne EY_u1.out (by decide))
            have e3 := block_ne EX_u1.out EY_u1.out (by decide)
            have hY := set_two EY_u1.out (.slice (some ⟨g1, 0, none⟩) c.length c1) (.slice (some ⟨g2, 0, none⟩) k.length c2)
            have h1 := (E1_u1.out.other (i := 0) (x := .slice (some ⟨g1, 0, none⟩) c.length c1) e1).other (i := 1) (x := .slice (some ⟨g2, 0, none⟩) k.length c2) e1
            have h2 := (E2_u1.out.other (i := 0) (x := .slice (some ⟨g1, 0, none⟩) c.length c1) e2).other (i := 1) (x := .slice (some ⟨g2, 0, none⟩) k.length c2) e2
            have hX : ((u1.setCell ⟨By, 0, none⟩ (.slice (some ⟨g1, 0, none⟩) c.length c1)).setCell ⟨By, 1, none⟩ (.slice (some ⟨g2, 0, none⟩) k.length c2)).heap[Bx]? = some (.cells #[.int .i64 s.cap, .int .i64 s.can, .int .i64 s.sl, .int .i64 s.sh, .slice A s.ns.length cp] 26 (0, 0)) := ((Below.heap_setCell _ _ _ _ e3).trans (Below.heap_setCell _ _ _ _ e3)).trans EX_u1.out
            have hb : Below w2.heap.size w2 ((u1.setCell ⟨By, 0, none⟩ (.slice (some ⟨g1, 0, none⟩) c.length c1)).setCell ⟨By, 1, none⟩ (.slice (some ⟨g2, 0, none⟩) k.length c2)) := (HX_u1.out.setCell bBy _).setCell bBy _
            have HM := Lib.hid (show MadeXY s A cp s.sl s.sh c k w2 Bx By g1 c1 g2 c2 ((u1.setCell ⟨By, 0, none⟩ (.slice (some ⟨g1, 0, none⟩) c.length c1)).setCell ⟨By, 1, none⟩ (.slice (some ⟨g2, 0, none⟩) k.length c2)) from ⟨hX, hY, h1, h2, g12, bBx, bBy, bg1, bg2, hb⟩)
            generalize ((u1.setCell ⟨By, 0, none⟩ (.slice (some ⟨g1, 0, none⟩) c.length c1)).setCell ⟨By, 1, none⟩ (.slice (some ⟨g2, 0, none⟩) k.length c2)) = u2 at HM hb ⊢
            have HU2 := Lib.hid hb
            clear hb hX hY h1 h2 e1 e2 e3 f0 f1 q0 q1
            refine hK.out _ _ ((HS.out _ HU2.out)) (fun hS6 => ?_)
            clear hS5 hK K
            refine wpAnyH_done (by kernel_rfl) ?_ _
            clear hS6
            go_wp2_with fail
            go_meet
            case rel => exact ⟨Bx, By, g1, c1, g2, c2, rfl, rfl, HM.out⟩
          · skip
            go_simp
            have hb : Below v2.heap.size v2 (v2.alloc (.cells #[.slice none 0 0, .slice none 0 0] 29)) := (Below.refl _ _).alloc (Nat.le_refl _) _
            have hE := Go.heap_alloc_new v2 (.cells #[.slice none 0 0, .slice none 0 0] 29)
            have bBy : w2.heap.size ≤ v2.heap.size := HX_v2.out.size
            obtain ⟨By, hBy⟩ : ∃ B, v2.heap.size = B := ⟨_, rfl⟩
            rw [hBy] at hE bBy
            rw [hBy]
            clear hBy
            generalize v2.alloc (.cells #[.slice none 0 0, .slice none 0 0] 29) = v5 at hb hE ⊢
            have HX_v5 := Lib.hid (HX_v2.out.trans (hb.mono HX_v2.out.size))
            have EY_v5 := Lib.hid hE
            have E1_v5 := Lib.hid (E1_v2.out.keep hb (Nat.le_refl _))
            have E2_v5 := Lib.hid (E2_v2.out.keep hb (Nat.le_refl _))
            clear hE hb
            refine hK.out _ _ ((HS.out _ HX_v5.out)) (fun hS3 => ?_)
            clear hS2 hK K
            refine wpAnyH_ready (rs := [8]) (by kernel_rfl) (by simp) (AllReadyH.cons (o := ⟨some 11, .alloc 26, 0, "outright.go:256", #[], none⟩) rfl (fun K hK => ?_) AllReadyH.nil)
            go_simp
            have hb : Below v5.heap.size v5 (v5.alloc (.cells #[.int .i64 0, .int .i64 0, .int .i64 0, .int .i64 0, .slice none 0 0] 26)) := (Below.refl _ _).alloc (Nat.le_refl _) _
            have hE := Go.heap_alloc_new v5 (.cells #[.int .i64 0, .int .i64 0, .int .i64 0, .int .i64 0, .slice none 0 0] 26)
            have bBx : w2.heap.size ≤ v5.heap.size := HX_v5.out.size
            obtain ⟨Bx, hBx⟩ : ∃ B, v5.heap.size = B := ⟨_, rfl⟩
            rw [hBx] at hE bBx
            rw [hBx]
            clear hBx
            generalize v5.alloc (.cells #[.int .i64 0, .int .i64 0, .int .i64 0, .int .i64 0, .slice none 0 0] 26) = v6 at hb hE ⊢
            have HX_v6 := Lib.hid (HX_v5.out.trans (hb.mono HX_v5.out.size))
            have EX_v6 := Lib.hid hE
            have E1_v6 := Lib.hid (E1_v5.out.keep hb (Nat.le_refl _))
            have E2_v6 := Lib.hid (E2_v5.out.keep hb (Nat.le_refl _))
            have EY_v6 := Lib.hid ((hb.block By (Array.getElem?_eq_some_iff.1 EY_v5.out).1).trans EY_v5.out)
            clear hE hb
            refine hK.out _ _ ((HS.out _ HX_v6.out)) (fun hS4 => ?_)
            clear hS3 hK K
            refine wpAnyH_ready (rs := [10]) (by kernel_rfl) (by simp) (AllReadyH.cons (o := ⟨none, .store 26 (.tmp 11) (.tmp 28), 0, "outright.go:256", #[⟨8, .data⟩, ⟨0, .data⟩, ⟨6, .chain⟩, ⟨0, .phase⟩, ⟨1, .textOnly .lateStores⟩, ⟨2, .textOnly .lateStores⟩, ⟨3, .textOnly .lateStoresUnsure⟩, ⟨4, .textOnly .lateStores⟩, ⟨5, .textOnly .lateStores⟩, ⟨6, .textOnly .lateStoresUnsure⟩, ⟨7, .textOnly .lateStores⟩, ⟨8, .phase⟩, ⟨9, .phase⟩], none⟩) rfl (fun K hK => ?_) AllReadyH.nil)
            have f0 : v6.frozen? ⟨Bx, 0, none⟩ = false := by simp [World.frozen?, EX_v6.out]
            have f1 : v6.frozen? ⟨Bx, 1, none⟩ = false := by simp [World.frozen?, EX_v6.out]
            have f2 : v6.frozen? ⟨Bx, 2, none⟩ = false := by simp [World.frozen?, EX_v6.out]
            have f3 : v6.frozen? ⟨Bx, 3, none⟩ = false := by simp [World.frozen?, EX_v6.out]
            have f4 : v6.frozen? ⟨Bx, 4, none⟩ = false := by simp [World.frozen?, EX_v6.out]
            have q0 : v6.cell? ⟨Bx, 0, none⟩ = some (.int .i64 0) := by simp [World.cell?, EX_v6.out]
            have q1 : v6.cell? ⟨Bx, 1, none⟩ = some (.int .i64 0) := by simp [World.cell?, EX_v6.out]
            have q2 : v6.cell? ⟨Bx, 2, none⟩ = some (.int .i64 0) := by simp [World.cell?, EX_v6.out]
            have q3 : v6.cell? ⟨Bx, 3, none⟩ = some (.int .i64 0) := by simp [World.cell?, EX_v6.out]
            have q4 : v6.cell? ⟨Bx, 4, none⟩ = some (.slice none 0 0) := by simp [World.cell?, EX_v6.out]
            go_simp
            have e1 := (E1_v6.out.ne EX_v6.out (by decide))
            have e2 := (E2_v6.out.ne EX_v6.out (by decide))
            have e3 := block_ne EY_v6.out EX_v6.out (by decide)
            have hX := set_five' EX_v6.out (.int .i64 s.cap) (.int .i64 s.can) (.int .i64 s.sl) (.int .i64 s.sh) (.slice A s.ns.length cp)
            have h1 := ((((E1_v6.out.other (i := 0) (x := .int .i64 s.cap) e1).other (i := 1) (x := .int .i64 s.can) e1).other (i := 2) (x := .int .i64 s.sl) e1).other (i := 3) (x := .int .i64 s.sh) e1).other (i := 4) (x := .slice A s.ns.length cp) e1
            have h2 := ((((E2_v6.out.other (i := 0) (x := .int .i64 s.cap) e2).other (i := 1) (x := .int .i64 s.can) e2).other (i := 2) (x := .int .i64 s.sl) e2).other (i := 3) (x := .int .i64 s.sh) e2).other (i := 4) (x := .slice A s.ns.length cp) e2
            have hY : (((((v6.setCell ⟨Bx, 0, none⟩ (.int .i64 s.cap)).setCell ⟨Bx, 1, none⟩ (.int .i64 s.can)).setCell ⟨Bx, 2, none⟩ (.int .i64 s.sl)).setCell ⟨Bx, 3, none⟩ (.int .i64 s.sh)).setCell ⟨Bx, 4, none⟩ (.slice A s.ns.length cp)).heap[By]? = some (.cells #[.slice none 0 0, .slice none 0 0] 29 (0, 0)) := ((Below.heap_setCell _ _ _ _ e3).trans ((Below.heap_setCell _ _ _ _ e3).trans ((Below.heap_setCell _ _ _ _ e3).trans ((Below.heap_setCell _ _ _ _ e3).trans (Below.heap_setCell _ _ _ _ e3))))).trans EY_v6.out
            have hb : Below w2.heap.size w2 (((((v6.setCell ⟨Bx, 0, none⟩ (.int .i64 s.cap)).setCell ⟨Bx, 1, none⟩ (.int .i64 s.can)).setCell ⟨Bx, 2, none⟩ (.int .i64 s.sl)).setCell ⟨Bx, 3, none⟩ (.int .i64 s.sh)).setCell ⟨Bx, 4, none⟩ (.slice A s.ns.length cp)) := ((((HX_v6.out.setCell bBx _).setCell bBx _).setCell bBx _).setCell bBx _).setCell bBx _
            generalize (((((v6.setCell ⟨Bx, 0, none⟩ (.int .i64 s.cap)).setCell ⟨Bx, 1, none⟩ (.int .i64 s.can)).setCell ⟨Bx, 2, none⟩ (.int .i64 s.sl)).setCell ⟨Bx, 3, none⟩ (.int .i64 s.sh)).setCell ⟨Bx, 4, none⟩ (.slice A s.ns.length cp)) = u1 at hX h1 h2 hY hb ⊢
            have HX_u1 := Lib.hid hb
            have EX_u1 := Lib.hid hX
            have EY_u1 := Lib.hid hY
            have E1_u1 := Lib.hid h1
            have E2_u1 := Lib.hid h2
            clear hb hX hY h1 h2 e1 e2 e3 f0 f1 f2 f3 f4 q0 q1 q2 q3 q4
            refine hK.out _ _ ((HS.out _ HX_u1.out)) (fun hS5 => ?_)
            clear hS4 hK K
            refine wpAnyH_ready (rs := [11]) (by kernel_rfl) (by simp) (AllReadyH.cons (o := ⟨none, .store 29 (.tmp 12) (.tmp 35), 0, "outright.go:256", #[⟨9, .data⟩, ⟨7, .data⟩, ⟨10, .chain⟩, ⟨0, .phase⟩, ⟨1, .phase⟩, ⟨2, .phase⟩, ⟨3, .phase⟩, ⟨4, .phase⟩, ⟨5, .phase⟩, ⟨6, .phase⟩, ⟨7, .phase⟩, ⟨8, .phase⟩, ⟨9, .phase⟩, ⟨10, .phase⟩], none⟩) rfl (fun K hK => ?_) AllReadyH.nil)
            have f0 : u1.frozen? ⟨By, 0, none⟩ = false := by simp [World.frozen?, EY_u1.out]
            have f1 : u1.frozen? ⟨By, 1, none⟩ = false := by simp [World.frozen?, EY_u1.out]
            have q0 : u1.cell? ⟨By, 0, none⟩ = some (.slice none 0 0) := by simp [World.cell?, EY_u1.out]
            have q1 : u1.cell? ⟨By, 1, none⟩ = some (.slice none 0 0) := by simp [World.cell?, EY_u1.out]
            go_simp
            have e1 := (E1_u1.out.ne EY_u1.out (by decide))
            have e2 := (E2_u1.out.ne EY_u1.out (by decide))
            have e3 := block_ne EX_u1.out EY_u1.out (by decide)
            have hY := set_two EY_u1.out (.slice (some ⟨g1, 0, none⟩) c.length c1) (.slice (some ⟨g2, 0, none⟩) k.length c2)
            have h1 := (E1_u1.out.other (i := 0) (x := .slice (some ⟨g1, 0, none⟩) c.length c1) e1).other (i := 1) (x := .slice (some ⟨g2, 0, none⟩) k.length c2) e1
            have h2 := (E2_u1.out.other (i := 0) (x := .slice (some ⟨g1, 0, none⟩) c.length c1) e2).other (i := 1) (x := .slice (some ⟨g2, 0, none⟩) k.length c2) e2
            have hX : ((u1.setCell ⟨By, 0, none⟩ (.slice (some ⟨g1, 0, none⟩) c.length c1)).setCell ⟨By, 1, none⟩ (.slice (some ⟨g2, 0, none⟩) k.length c2)).heap[Bx]? = some (.cells #[.int .i64 s.cap, .int .i64 s.can, .int .i64 s.sl, .int .i64 s.sh, .slice A s.ns.length cp] 26 (0, 0)) := ((Below.heap_setCell _ _ _ _ e3).trans (Below.heap_setCell _ _ _ _ e3)).trans EX_u1.out
            have hb : Below w2.heap.size w2 ((u1.setCell ⟨By, 0, none⟩ (.slice (some ⟨g1, 0, none⟩) c.length c1)).setCell ⟨By, 1, none⟩ (.slice (some ⟨g2, 0, none⟩) k.length c2)) := (HX_u1.out.setCell bBy _).setCell bBy _
            have HM := Lib.hid (show MadeXY s A cp s.sl s.sh c k w2 Bx By g1 c1 g2 c2 ((u1.setCell ⟨By, 0, none⟩ (.slice (some ⟨g1, 0, none⟩) c.length c1)).setCell ⟨By, 1, none⟩ (.slice (some ⟨g2, 0, none⟩) k.length c2)) from ⟨hX, hY, h1, h2, g12, bBx, bBy, bg1, bg2, hb⟩)
            generalize ((u1.setCell ⟨By, 0, none⟩ (.slice (some ⟨g1, 0, none⟩) c.length c1)).setCell ⟨By, 1, none⟩ (.slice (some ⟨g2, 0, none⟩) k.length c2)) = u2 at HM hb ⊢
            have HU2 := Lib.hid hb
            clear hb hX hY h1 h2 e1 e2 e3 f0 f1 q0 q1
            refine hK.out _ _ ((HS.out _ HU2.out)) (fun hS6 => ?_)
            clear hS5 hK K
            refine wpAnyH_done (by kernel_rfl) ?_ _
            clear hS6
            go_wp2_with fail
            go_meet
            case rel => exact ⟨Bx, By, g1, c1, g2, c2, rfl, rfl, HM.out⟩
        · skip
          go_simp
          have hb : Below v1.heap.size v1 (v1.alloc (.cells #[.int .i64 0, .int .i64 0, .int .i64 0, .int .i64 0, .slice none 0 0] 26)) := (Below.refl _ _).alloc (Nat.le_refl _) _
          have hE := Go.heap_alloc_new v1 (.cells #[.int .i64 0, .int .i64 0, .int .i64 0, .int .i64 0, .slice none 0 0] 26)
          have bBx : w2.heap.size ≤ v1.heap.size := HX_v1.out.size
          obtain ⟨Bx, hBx⟩ : ∃ B, v1.heap.size = B := ⟨_, rfl⟩
          rw [hBx] at hE bBx
          rw [hBx]
          clear hBx
          generalize v1.alloc (.cells #[.int .i64 0, .int .i64 0, .int .i64 0, .int .i64 0, .slice none 0 0] 26) = v7 at hb hE ⊢
          have HX_v7 := Lib.hid (HX_v1.out.trans (hb.mono HX_v1.out.size))
          have EX_v7 := Lib.hid hE
          have E1_v7 := Lib.hid (E1_v1.out.keep hb (Nat.le_refl _))
          clear hE hb
          refine hK.out _ _ ((HS.out _ HX_v7.out)) (fun hS2 => ?_)
          clear hS1 hK K
          refine wpAnyH_ready (rs := [6, 9]) (by kernel_rfl) (by simp) (AllReadyH.cons (o := ⟨some 34, .call ⟨.value (.func 34), #[.tmp 33], #[27]⟩, 27, "outright.go:256", #[⟨5, .data⟩, ⟨3, .chain⟩], none⟩) rfl (fun K hK => ?_) (AllReadyH.cons (o := ⟨some 12, .alloc 29, 0, "outright.go:256", #[], none⟩) rfl (fun K hK => ?_) AllReadyH.nil))
          · skip
            go_simp
            refine (list_new Ak ck k v7 n2 (HK.out.keep (HB2.out.trans (HX_v7.out.mono HB2.out.size)) (Nat.le_refl _)) k9 kpos).mono ?_
            rintro e v8 ⟨g2, c2, rfl, hE, hge, hb⟩
            have HX_v8 := Lib.hid (HX_v7.out.trans (hb.mono HX_v7.out.size))
            have E2_v8 := Lib.hid hE
            have bg2 : w2.heap.size ≤ g2 := Nat.le_trans HX_v7.out.size hge
            have g12 : g1 ≠ g2 := by have := E1_v7.out.lt; omega
            have E1_v8 := Lib.hid (E1_v7.out.keep hb (Nat.le_refl _))
            have EX_v8 := Lib.hid ((hb.block Bx (Array.getElem?_eq_some_iff.1 EX_v7.out).1).trans EX_v7.out)
            clear hE hge hb
            go_wp2_with fail
            refine hK.out _ _ ((HS.out _ HX_v8.out)) (fun hS3 => ?_)
            clear hS2 hK K
            refine tkH 7 ⟨some 35, .build 29 #[(0, .tmp 31), (1, .tmp 34)], 29, "outright.go:256", #[⟨3, .data⟩, ⟨6, .data⟩, { on := 10, ground := Ground.gcOnly Departure.lateStores }], none⟩ (v := ?_) hS3 ?_ ?_
            rotate_left
            · intro X ⟨x0, x1, x2, x3, x4, x5, x6⟩; go_simp; try with_reducible rfl
            simp only [Act.put, List.setIfInBounds_toArray, List.set_cons_zero, List.set_cons_succ, Array.toArray_toList]
            refine wpAnyH_ready (rs := [9]) (by kernel_rfl) (by simp) (AllReadyH.cons (o := ⟨some 12, .alloc 29, 0, "outright.go:256", #[], none⟩) rfl (fun K hK => ?_) AllReadyH.nil)
            go_simp
            have hb : Below v8.heap.size v8 (v8.alloc (.cells #[.slice none 0 0, .slice none 0 0] 29)) := (Below.refl _ _).alloc (Nat.le_refl _) _
            have hE := Go.heap_alloc_new v8 (.cells #[.slice none 0 0, .slice none 0 0] 29)
            have bBy : w2.heap.size ≤ v8.heap.size := HX_v8.out.size
            obtain ⟨By, hBy⟩ : ∃ B, v8.heap.size = B := ⟨_, rfl⟩
            rw [hBy] at hE bBy
            rw [hBy]
            clear hBy
            generalize v8.alloc (.cells #[.slice none 0 0, .slice none 0 0] 29) = v9 at hb hE ⊢
            have HX_v9 := Lib.hid (HX_v8.out.trans (hb.mono HX_v8.out.size))
            have EY_v9 := Lib.hid hE
            have E1_v9 := Lib.hid (E1_v8.out.keep hb (Nat.le_refl _))
            have EX_v9 := Lib.hid ((hb.block Bx (Array.getElem?_eq_some_iff.1 EX_v8.out).1).trans EX_v8.out)
            have E2_v9 := Lib.hid (E2_v8.out.keep hb (Nat.le_refl _))
            clear hE hb
            refine hK.out _ _ ((HS.out _ HX_v9.out)) (fun hS4 => ?_)
            clear hS3 hK K
            refine wpAnyH_ready (rs := [10]) (by kernel_rfl) (by simp) (AllReadyH.cons (o := ⟨none, .store 26 (.tmp 11) (.tmp 28), 0, "outright.go:256", #[⟨8, .data⟩, ⟨0, .data⟩, ⟨6, .chain⟩, ⟨0, .phase⟩, ⟨1, .textOnly .lateStores⟩, ⟨2, .textOnly .lateStores⟩, ⟨3, .textOnly .lateStoresUnsure⟩, ⟨4, .textOnly .lateStores⟩, ⟨5, .textOnly .lateStores⟩, ⟨6, .textOnly .lateStoresUnsure⟩, ⟨7, .textOnly .lateStores⟩, ⟨8, .phase⟩, ⟨9, .phase⟩], none⟩) rfl (fun K hK => ?_) AllReadyH.nil)
            have f0 : v9.frozen? ⟨Bx, 0, none⟩ = false := by simp [World.frozen?, EX_v9.out]
            have f1 : v9.frozen? ⟨Bx, 1, none⟩ = false := by simp [World.frozen?, EX_v9.out]
            have f2 : v9.frozen? ⟨Bx, 2, none⟩ = false := by simp [World.frozen?, EX_v9.out]
            have f3 : v9.frozen? ⟨Bx, 3, none⟩ = false := by simp [World.frozen?, EX_v9.out]
            have f4 : v9.frozen? ⟨Bx, 4, none⟩ = false := by simp [World.frozen?, EX_v9.out]
            have q0 : v9.cell? ⟨Bx, 0, none⟩ = some (.int .i64 0) := by simp [World.cell?, EX_v9.out]
            have q1 : v9.cell? ⟨Bx, 1, none⟩ = some (.int .i64 0) := by simp [World.cell?, EX_v9.out]
            have q2 : v9.cell? ⟨Bx, 2, none⟩ = some (.int .i64 0) := by simp [World.cell?, EX_v9.out]
            have q3 : v9.cell? ⟨Bx, 3, none⟩ = some (.int .i64 0) := by simp [World.cell?, EX_v9.out]
            have q4 : v9.cell? ⟨Bx, 4, none⟩ = some (.slice none 0 0) := by simp [World.cell?, EX_v9.out]
            go_simp
            have e1 := (E1_v9.out.ne EX_v9.out (by decide))
            have e2 := (E2_v9.out.ne EX_v9.out (by decide))
            have e3 := block_ne EY_v9.out EX_v9.out (by decide)
            have hX := set_five' EX_v9.out (.int .i64 s.cap) (.int .i64 s.can) (.int .i64 s.sl) (.int .i64 s.sh) (.slice A s.ns.length cp)
            have h1 := ((((E1_v9.out.other (i := 0) (x := .int .i64 s.cap) e1).other (i := 1) (x := .int .i64 s.can) e1).other (i := 2) (x := .int .i64 s.sl) e1).other (i := 3) (x := .int .i64 s.sh) e1).other (i := 4) (x := .slice A s.ns.length cp) e1
            have h2 := ((((E2_v9.out.other (i := 0) (x := .int .i64 s.cap) e2).other (i := 1) (x := .int .i64 s.can) e2).other (i := 2) (x := .int .i64 s.sl) e2).other (i := 3) (x := .int .i64 s.sh) e2).other (i := 4) (x := .slice A s.ns.length cp) e2
            have hY : (((((v9.setCell ⟨Bx, 0, none⟩ (.int .i64 s.cap)).setCell ⟨Bx, 1, none⟩ (.int .i64 s.can)).setCell ⟨Bx, 2, none⟩ (.int .i64 s.sl)).setCell ⟨Bx, 3, none⟩ (.int .i64 s.sh)).setCell ⟨Bx, 4, none⟩ (.slice A s.ns.length cp)).heap[By]? = some (.cells #[.slice none 0 0, .slice none 0 0] 29 (0, 0)) := ((Below.heap_setCell _ _ _ _ e3).trans ((Below.heap_setCell _ _ _ _ e3).trans ((Below.heap_setCell _ _ _ _ e3).trans ((Below.heap_setCell _ _ _ _ e3).trans (Below.heap_setCell _ _ _ _ e3))))).trans EY_v9.out
            have hb : Below w2.heap.size w2 (((((v9.setCell ⟨Bx, 0, none⟩ (.int .i64 s.cap)).setCell ⟨Bx, 1, none⟩ (.int .i64 s.can)).setCell ⟨Bx, 2, none⟩ (.int .i64 s.sl)).setCell ⟨Bx, 3, none⟩ (.int .i64 s.sh)).setCell ⟨Bx, 4, none⟩ (.slice A s.ns.length cp)) := ((((HX_v9.out.setCell bBx _).setCell bBx _).setCell bBx _).setCell bBx _).setCell bBx _
            generalize (((((v9.setCell ⟨Bx, 0, none⟩ (.int .i64 s.cap)).setCell ⟨Bx, 1, none⟩ (.int .i64 s.can)).setCell ⟨Bx, 2, none⟩ (.int .i64 s.sl)).setCell ⟨Bx, 3, none⟩ (.int .i64 s.sh)).setCell ⟨Bx, 4, none⟩ (.slice A s.ns.length cp)) = u1 at hX h1 h2 hY hb ⊢
            have HX_u1 := Lib.hid hb
            have EX_u1 := Lib.hid hX
            have EY_u1 := Lib.hid hY
            have E1_u1 := Lib.hid h1
            have E2_u1 := Lib.hid h2
            clear hb hX hY h1 h2 e1 e2 e3 f0 f1 f2 f3 f4 q0 q1 q2 q3 q4
            refine hK.out _ _ ((HS.out _ HX_u1.out)) (fun hS5 => ?_)
            clear hS4 hK K
            refine wpAnyH_ready (rs := [11]) (by kernel_rfl) (by simp) (AllReadyH.cons (o := ⟨none, .store 29 (.tmp 12) (.tmp 35), 0, "outright.go:256", #[⟨9, .data⟩, ⟨7, .data⟩, ⟨10, .chain⟩, ⟨0, .phase⟩, ⟨1, .phase⟩, ⟨2, .phase⟩, ⟨3, .phase⟩, ⟨4, .phase⟩, ⟨5, .phase⟩, ⟨6, .phase⟩, ⟨7, .phase⟩, ⟨8, .phase⟩, ⟨9, .phase⟩, ⟨10, .phase⟩], none⟩) rfl (fun K hK => ?_) AllReadyH.nil)
            have f0 : u1.frozen? ⟨By, 0, none⟩ = false := by simp [World.frozen?, EY_u1.out]
            have f1 : u1.frozen? ⟨By, 1, none⟩ = false := by simp [World.frozen?, EY_u1.out]
            have q0 : u1.cell? ⟨By, 0, none⟩ = some (.slice none 0 0) := by simp [World.cell?, EY_u1.out]
            have q1 : u1.cell? ⟨By, 1, none⟩ = some (.slice none 0 0) := by simp [World.cell?, EY_u1.out]
            go_simp
            have e1 := (E1_u1.out.ne EY_u1.out (by decide))
            have e2 := (E2_u1.out.ne EY_u1.out (by decide))
            have e3 := block_ne EX_u1.out EY_u1.out (by decide)
            have hY := set_two EY_u1.out (.slice (some ⟨g1, 0, none⟩) c.length c1) (.slice (some ⟨g2, 0, none⟩) k.length c2)
            have h1 := (E1_u1.out.other (i := 0) (x := .slice (some ⟨g1, 0, none⟩) c.length c1) e1).other (i := 1) (x := .slice (some ⟨g2, 0, none⟩) k.length c2) e1
            have h2 := (E2_u1.out.other (i := 0) (x := .slice (some ⟨g1, 0, none⟩) c.length c1) e2).other (i := 1) (x := .slice (some ⟨g2, 0, none⟩) k.length c2) e2
            have hX : ((u1.setCell ⟨By, 0, none⟩ (.slice (some ⟨g1, 0, none⟩) c.length c1)).setCell ⟨By, 1, none⟩ (.slice (some ⟨g2, 0, none⟩) k.length c2)).heap[Bx]? = some (.cells #[.int .i64 s.cap, .int .i64 s.can, .int .i64 s.sl, .int .i64 s.sh, .slice A s.ns.length cp] 26 (0, 0)) := ((Below.heap_setCell _ _ _ _ e3).trans (Below.heap_setCell _ _ _ _ e3)).trans EX_u1.out
            have hb : Below w2.heap.size w2 ((u1.setCell ⟨By, 0, none⟩ (.slice (some ⟨g1, 0, none⟩) c.length c1)).setCell ⟨By, 1, none⟩ (.slice (some ⟨g2, 0, none⟩) k.length c2)) := (HX_u1.out.setCell bBy _).setCell bBy _
            have HM := Lib.hid (show MadeXY s A cp s.sl s.sh c k w2 Bx By g1 c1 g2 c2 ((u1.setCell ⟨By, 0, none⟩ (.slice (some ⟨g1, 0, none⟩) c.length c1)).setCell ⟨By, 1, none⟩ (.slice (some ⟨g2, 0, none⟩) k.length c2)) from ⟨hX, hY, h1, h2, g12, bBx, bBy, bg1, bg2, hb⟩)
            generalize ((u1.setCell ⟨By, 0, none⟩ (.slice (some ⟨g1, 0, none⟩) c.length c1)).setCell ⟨By, 1, none⟩ (.slice (some ⟨g2, 0, none⟩) k.length c2)) = u2 at HM hb ⊢
            have HU2 := Lib.hid hb
            clear hb hX hY h1 h2 e1 e2 e3 f0 f1 q0 q1
            refine hK.out _ _ ((HS.out _ HU2.out)) (fun hS6 => ?_)
            clear hS5 hK K
            refine wpAnyH_done (by kernel_rfl) ?_ _
            clear hS6
            go_wp2_with fail
            go_meet
            case rel => exact ⟨Bx, By, g1, c1, g2, c2, rfl, rfl, HM.out⟩
          · skip
            go_simp
            have hb : Below v7.heap.size v7 (v7.alloc (.cells #[.slice none 0 0, .slice none 0 0] 29)) := (Below.refl _ _).alloc (Nat.le_refl _) _
            have hE := Go.heap_alloc_new v7 (.cells #[.slice none 0 0, .slice none 0 0] 29)
            have bBy : w2.heap.size ≤ v7.heap.size := HX_v7.out.size
            obtain ⟨By, hBy⟩ : ∃ B, v7.heap.size = B := ⟨_, rfl⟩
            rw [hBy] at hE bBy
            rw [hBy]
            clear hBy
            generalize v7.alloc (.cells #[.slice none 0 0, .slice none 0 0] 29) = v10 at hb hE ⊢
            have HX_v10 := Lib.hid (HX_v7.out.trans (hb.mono HX_v7.out.size))
            have EY_v10 := Lib.hid hE
            have E1_v10 := Lib.hid (E1_v7.out.keep hb (Nat.le_refl _))
            have EX_v10 := Lib.hid ((hb.block Bx (Array.getElem?_eq_some_iff.1 EX_v7.out).1).trans EX_v7.out)
            clear hE hb
            refine hK.out _ _ ((HS.out _ HX_v10.out)) (fun hS3 => ?_)
            clear hS2 hK K
            refine wpAnyH_ready (rs := [6]) (by kernel_rfl) (by simp) (AllReadyH.cons (o := ⟨some 34, .call ⟨.value (.func 34), #[.tmp 33], #[27]⟩, 27, "outright.go:256", #[⟨5, .data⟩, ⟨3, .chain⟩], none⟩) rfl (fun K hK => ?_) AllReadyH.nil)
            go_simp
            refine (list_new Ak ck k v10 n2 (HK.out.keep (HB2.out.trans (HX_v10.out.mono HB2.out.size)) (Nat.le_refl _)) k9 kpos).mono ?_
            rintro e v11 ⟨g2, c2, rfl, hE, hge, hb⟩
            have HX_v11 := Lib.hid (HX_v10.out.trans (hb.mono HX_v10.out.size))
            have E2_v11 := Lib.hid hE
            have bg2 : w2.heap.size ≤ g2 := Nat.le_trans HX_v10.out.size hge
            have g12 : g1 ≠ g2 := by have := E1_v10.out.lt; omega
            have E1_v11 := Lib.hid (E1_v10.out.keep hb (Nat.le_refl _))
            have EX_v11 := Lib.hid ((hb.block Bx (Array.getElem?_eq_some_iff.1 EX_v10.out).1).trans EX_v10.out)
            have EY_v11 := Lib.hid ((hb.block By (Array.getElem?_eq_some_iff.1 EY_v10.out).1).trans EY_v10.out)
            clear hE hge hb
            go_wp2_with fail
            refine hK.out _ _ ((HS.out _ HX_v11.out)) (fun hS4 => ?_)
            clear hS3 hK K
            refine tkH 7 ⟨some 35, .build 29 #[(0, .tmp 31), (1, .tmp 34)], 29, "outright.go:256", #[⟨3, .data⟩, ⟨6, .data⟩, { on := 10, ground := Ground.gcOnly Departure.lateStores }], none⟩ (v := ?_) hS4 ?_ ?_
            rotate_left
            · intro X ⟨x0, x1, x2, x3, x4, x5, x6⟩; go_simp; try with_reducible rfl
            simp only [Act.put, List.setIfInBounds_toArray, List.set_cons_zero, List.set_cons_succ, Array.toArray_toList]
            refine wpAnyH_ready (rs := [10]) (by kernel_rfl) (by simp) (AllReadyH.cons (o := ⟨none, .store 26 (.tmp 11) (.tmp 28), 0, "outright.go:256", #[⟨8, .data⟩, ⟨0, .data⟩, ⟨6, .chain⟩, ⟨0, .phase⟩, ⟨1, .textOnly .lateStores⟩, ⟨2, .textOnly .lateStores⟩, ⟨3, .textOnly .lateStoresUnsure⟩, ⟨4, .textOnly .lateStores⟩, ⟨5, .textOnly .lateStores⟩, ⟨6, .textOnly .lateStoresUnsure⟩, ⟨7, .textOnly .lateStores⟩, ⟨8, .phase⟩, ⟨9, .phase⟩], none⟩) rfl (fun K hK => ?_) AllReadyH.nil)
            have f0 : v11.frozen? ⟨Bx, 0, none⟩ = false := by simp [World.frozen?, EX_v11.out]
            have f1 : v11.frozen? ⟨Bx, 1, none⟩ = false := by simp [World.frozen?, EX_v11.out]
            have f2 : v11.frozen? ⟨Bx, 2, none⟩ = false := by simp [World.frozen?, EX_v11.out]
            have f3 : v11.frozen? ⟨Bx, 3, none⟩ = false := by simp [World.frozen?, EX_v11.out]
            have f4 : v11.frozen? ⟨Bx, 4, none⟩ = false := by simp [World.frozen?, EX_v11.out]
            have q0 : v11.cell? ⟨Bx, 0, none⟩ = some (.int .i64 0) := by simp [World.cell?, EX_v11.out]
            have q1 : v11.cell? ⟨Bx, 1, none⟩ = some (.int .i64 0) := by simp [World.cell?, EX_v11.out]
            have q2 : v11.cell? ⟨Bx, 2, none⟩ = some (.int .i64 0) := by simp [World.cell?, EX_v11.out]
            have q3 : v11.cell? ⟨Bx, 3, none⟩ = some (.int .i64 0) := by simp [World.cell?, EX_v11.out]
            have q4 : v11.cell? ⟨Bx, 4, none⟩ = some (.slice none 0 0) := by simp [World.cell?, EX_v11.out]
            go_simp
            have e1 := (E1_v11.out.ne EX_v11.out (by decide))
            have e2 := (E2_v11.out.ne EX_v11.out (by decide))
            have e3 := block_ne EY_v11.out EX_v11.out (by decide)
            have hX := set_five' EX_v11.out (.int .i64 s.cap) (.int .i64 s.can) (.int .i64 s.sl) (.int .i64 s.sh) (.slice A s.ns.length cp)
            have h1 := ((((E1_v11.out.other (i := 0) (x := .int .i64 s.cap) e1).other (i := 1) (x := .int .i64 s.can) e1).other (i := 2) (x := .int .i64 s.sl) e1).other (i := 3) (x := .int .i64 s.sh) e1).other (i := 4) (x := .slice A s.ns.length cp) e1
            have h2 := ((((E2_v11.out.other (i := 0) (x := .int .i64 s.cap) e2).other (i := 1) (x := .int .i64 s.can) e2).other (i := 2) (x := .int .i64 s.sl) e2).other (i := 3) (x := .int .i64 s.sh) e2).other (i := 4) (x := .slice A s.ns.length cp) e2
            have hY : (((((v11.setCell ⟨Bx, 0, none⟩ (.int .i64 s.cap)).setCell ⟨Bx, 1, none⟩ (.int .i64 s.can)).setCell ⟨Bx, 2, none⟩ (.int .i64 s.sl)).setCell ⟨Bx, 3, none⟩ (.int .i64 s.sh)).setCell ⟨Bx, 4, none⟩ (.slice A s.ns.length cp)).heap[By]? = some (.cells #[.slice none 0 0, .slice none 0 0] 29 (0, 0)) := ((Below.heap_setCell _ _ _ _ e3).trans ((Below.heap_setCell _ _ _ _ e3).trans ((Below.heap_setCell _ _ _ _ e3).trans ((Below.heap_setCell _ _ _ _ e3).trans (Below.heap_setCell _ _ _ _ e3))))).trans EY_v11.out
            have hb : Below w2.heap.size w2 (((((v11.setCell ⟨Bx, 0, none⟩ (.int .i64 s.cap)).setCell ⟨Bx, 1, none⟩ (.int .i64 s.can)).setCell ⟨Bx, 2, none⟩ (.int .i64 s.sl)).setCell ⟨Bx, 3, none⟩ (.int .i64 s.sh)).setCell ⟨Bx, 4, none⟩ (.slice A s.ns.length cp)) := ((((HX_v11.out.setCell bBx _).setCell bBx _).setCell bBx _).setCell bBx _).setCell bBx _
            generalize (((((v11.setCell ⟨Bx, 0, none⟩ (.int .i64 s.cap)).setCell ⟨Bx, 1, none⟩ (.int .i64 s.can)).setCell ⟨Bx, 2, none⟩ (.int .i64 s.sl)).setCell ⟨Bx, 3, none⟩ (.int .i64 s.sh)).setCell ⟨Bx, 4, none⟩ (.slice A s.ns.length cp)) = u1 at hX h1 h2 hY hb ⊢
            have HX_u1 := Lib.hid hb
            have EX_u1 := Lib.hid hX
            have EY_u1 := Lib.hid hY
            have E1_u1 := Lib.hid h1
            have E2_u1 := Lib.hid h2
            clear hb hX hY h1 h2 e1 e2 e3 f0 f1 f2 f3 f4 q0 q1 q2 q3 q4
            refine hK.out _ _ ((HS.out _ HX_u1.out)) (fun hS5 => ?_)
            clear hS4 hK K
            refine wpAnyH_ready (rs := [11]) (by kernel_rfl) (by simp) (AllReadyH.cons (o := ⟨none, .store 29 (.tmp 12) (.tmp 35), 0, "outright.go:256", #[⟨9, .data⟩, ⟨7, .data⟩, ⟨10, .chain⟩, ⟨0, .phase⟩, ⟨1, .phase⟩, ⟨2, .phase⟩, ⟨3, .phase⟩, ⟨4, .phase⟩, ⟨5, .phase⟩, ⟨6, .phase⟩, ⟨7, .phase⟩, ⟨8, .phase⟩, ⟨9, .phase⟩, ⟨10, .phase⟩], none⟩) rfl (fun K hK => ?_) AllReadyH.nil)
            have f0 : u1.frozen? ⟨By, 0, none⟩ = false := by simp [World.frozen?, EY_u1.out]
            have f1 : u1.frozen? ⟨By, 1, none⟩ = false := by simp [World.frozen?, EY_u1.out]
            have q0 : u1.cell? ⟨By, 0, none⟩ = some (.slice none 0 0) := by simp [World.cell?, EY_u1.out]
            have q1 : u1.cell? ⟨By, 1, none⟩ = some (.slice none 0 0) := by simp [World.cell?, EY_u1.out]
            go_simp
            have e1 := (E1_u1.out.ne EY_u1.out (by decide))
            have e2 := (E2_u1.out.ne EY_u1.out (by decide))
            have e3 := block_ne EX_u1.out EY_u1.out (by decide)
            have hY := set_two EY_u1.out (.slice (some ⟨g1, 0, none⟩) c.length c1) (.slice (some ⟨g2, 0, none⟩) k.length c2)
            have h1 := (E1_u1.out.other (i := 0) (x := .slice (some ⟨g1, 0, none⟩) c.length c1) e1).other (i := 1) (x := .slice (some ⟨g2, 0, none⟩) k.length c2) e1
            have h2 := (E2_u1.out.other (i := 0) (x := .slice (some ⟨g1, 0, none⟩) c.length c1) e2).other (i := 1) (x := .slice (some ⟨g2, 0, none⟩) k.length c2) e2
            have hX : ((u1.setCell ⟨By, 0, none⟩ (.slice (some ⟨g1, 0, none⟩) c.length c1)).setCell ⟨By, 1, none⟩ (.slice (some ⟨g2, 0, none⟩) k.length c2)).heap[Bx]? = some (.cells #[.int .i64 s.cap, .int .i64 s.can, .int .i64 s.sl, .int .i64 s.sh, .slice A s.ns.length cp] 26 (0, 0)) := ((Below.heap_setCell _ _ _ _ e3).trans (Below.heap_setCell _ _ _ _ e3)).trans EX_u1.out
            have hb : Below w2.heap.size w2 ((u1.setCell ⟨By, 0, none⟩ (.slice (some ⟨g1, 0, none⟩) c.length c1)).setCell ⟨By, 1, none⟩ (.slice (some ⟨g2, 0, none⟩) k.length c2)) := (HX_u1.out.setCell bBy _).setCell bBy _
            have HM := Lib.hid (show MadeXY s A cp s.sl s.sh c k w2 Bx By g1 c1 g2 c2 ((u1.setCell ⟨By, 0, none⟩ (.slice (some ⟨g1, 0, none⟩) c.length c1)).setCell ⟨By, 1, none⟩ (.slice (some ⟨g2, 0, none⟩) k.length c2)) from ⟨hX, hY, h1, h2, g12, bBx, bBy, bg1, bg2, hb⟩)
            generalize ((u1.setCell ⟨By, 0, none⟩ (.slice (some ⟨g1, 0, none⟩) c.length c1)).setCell ⟨By, 1, none⟩ (.slice (some ⟨g2, 0, none⟩) k.length c2)) = u2 at HM hb ⊢
            have HU2 := Lib.hid hb
            clear hb hX hY h1 h2 e1 e2 e3 f0 f1 q0 q1
            refine hK.out _ _ ((HS.out _ HU2.out)) (fun hS6 => ?_)
            clear hS5 hK K
            refine wpAnyH_done (by kernel_rfl) ?_ _
            clear hS6
            go_wp2_with fail
            go_meet
            case rel => exact ⟨Bx, By, g1, c1, g2, c2, rfl, rfl, HM.out⟩
        · skip
          go_simp
          have hb : Below v1.heap.size v1 (v1.alloc (.cells #[.slice none 0 0, .slice none 0 0] 29)) := (Below.refl _ _).alloc (Nat.le_refl _) _
          have hE := Go.heap_alloc_new v1 (.cells #[.slice none 0 0, .slice none 0 0] 29)
          have bBy : w2.heap.size ≤ v1.heap.size := HX_v1.out.size
          obtain ⟨By, hBy⟩ : ∃ B, v1.heap.size = B := ⟨_, rfl⟩
          rw [hBy] at hE bBy
          rw [hBy]
          clear hBy
          generalize v1.alloc (.cells #[.slice none 0 0, .slice none 0 0] 29) = v12 at hb hE ⊢
          have HX_v12 := Lib.hid (HX_v1.out.trans (hb.mono HX_v1.out.size))
          have EY_v12 := Lib.hid hE
          have E1_v12 := Lib.hid (E1_v1.out.keep hb (Nat.le_refl _))
          clear hE hb
          refine hK.out _ _ ((HS.out _ HX_v12.out)) (fun hS2 => ?_)
          clear hS1 hK K
          refine wpAnyH_ready (rs := [6, 8]) (by kernel_rfl) (by simp) (AllReadyH.cons (o := ⟨some 34, .call ⟨.value (.func 34), #[.tmp 33], #[27]⟩, 27, "outright.go:256", #[⟨5, .data⟩, ⟨3, .chain⟩], none⟩) rfl (fun K hK => ?_) (AllReadyH.cons (o := ⟨some 11, .alloc 26, 0, "outright.go:256", #[], none⟩) rfl (fun K hK => ?_) AllReadyH.nil))
          · skip
            go_simp
            refine (list_new Ak ck k v12 n2 (HK.out.keep (HB2.out.trans (HX_v12.out.mono HB2.out.size)) (Nat.le_refl _)) k9 kpos).mono ?_
            rintro e v13 ⟨g2, c2, rfl, hE, hge, hb⟩
            have HX_v13 := Lib.hid (HX_v12.out.trans (hb.mono HX_v12.out.size))
            have E2_v13 := Lib.hid hE
            have bg2 : w2.heap.size ≤ g2 := Nat.le_trans HX_v12.out.size hge
            have g12 : g1 ≠ g2 := by have := E1_v12.out.lt; omega
            have E1_v13 := Lib.hid (E1_v12.out.keep hb (Nat.le_refl _))
            have EY_v13 := Lib.hid ((hb.block By (Array.getElem?_eq_some_iff.1 EY_v12.out).1).trans EY_v12.out)
            clear hE hge hb
            go_wp2_with fail
            refine hK.out _ _ ((HS.out _ HX_v13.out)) (fun hS3 => ?_)
            clear hS2 hK K
            refine tkH 7 ⟨some 35, .build 29 #[(0, .tmp 31), (1, .tmp 34)], 29, "outright.go:256", #[⟨3, .data⟩, ⟨6, .data⟩, { on := 10, ground := Ground.gcOnly Departure.lateStores }], none⟩ (v := ?_) hS3 ?_ ?_
            rotate_left
            · intro X ⟨x0, x1, x2, x3, x4, x5, x6⟩; go_simp; try with_reducible rfl
            simp only [Act.put, List.setIfInBounds_toArray, List.set_cons_zero, List.set_cons_succ, Array.toArray_toList]
            refine wpAnyH_ready (rs := [8]) (by kernel_rfl) (by simp) (AllReadyH.cons (o := ⟨some 11, .alloc 26, 0, "outright.go:256", #[], none⟩) rfl (fun K hK => ?_) AllReadyH.nil)
            go_simp
            have hb : Below v13.heap.size v13 (v13.alloc (.cells #[.int .i64 0, .int .i64 0, .int .i64 0, .int .i64 0, .slice none 0 0] 26)) := (Below.refl _ _).alloc (Nat.le_refl _) _
            have hE := Go.heap_alloc_new v13 (.cells #[.int .i64 0, .int .i64 0, .int .i64 0, .int .i64 0, .slice none 0 0] 26)
            have bBx : w2.heap.size ≤ v13.heap.size := HX_v13.out.size
            obtain ⟨Bx, hBx⟩ : ∃ B, v13.heap.size = B := ⟨_, rfl⟩
            rw [hBx] at hE bBx
            rw [hBx]
            clear hBx
            generalize v13.alloc (.cells #[.int .i64 0, .int .i64 0, .int .i64 0, .int .i64 0, .slice none 0 0] 26) = v14 at hb hE ⊢
            have HX_v14 := Lib.hid (HX_v13.out.trans (hb.mono HX_v13.out.size))
            have EX_v14 := Lib.hid hE
            have E1_v14 := Lib.hid (E1_v13.out.keep hb (Nat.le_refl _))
            have EY_v14 := Lib.hid ((hb.block By (Array.getElem?_eq_some_iff.1 EY_v13.out).1).trans EY_v13.out)
            have E2_v14 := Lib.hid (E2_v13.out.keep hb (Nat.le_refl _))
            clear hE hb
            refine hK.out _ _ ((HS.out _ HX_v14.out)) (fun hS4 => ?_)
            clear hS3 hK K
            refine wpAnyH_ready (rs := [10]) (by kernel_rfl) (by simp) (AllReadyH.cons (o := ⟨none, .store 26 (.tmp 11) (.tmp 28), 0, "outright.go:256", #[⟨8, .data⟩, ⟨0, .data⟩, ⟨6, .chain⟩, ⟨0, .phase⟩, ⟨1, .textOnly .lateStores⟩, ⟨2, .textOnly .lateStores⟩, ⟨3, .textOnly .lateStoresUnsure⟩, ⟨4, .textOnly .lateStores⟩, ⟨5, .textOnly .lateStores⟩, ⟨6, .textOnly .lateStoresUnsure⟩, ⟨7, .textOnly .lateStores⟩, ⟨8, .phase⟩, ⟨9, .phase⟩], none⟩) rfl (fun K hK => ?_) AllReadyH.nil)
            have f0 : v14.frozen? ⟨Bx, 0, none⟩ = false := by simp [World.frozen?, EX_v14.out]
            have f1 : v14.frozen? ⟨Bx, 1, none⟩ = false := by simp [World.frozen?, EX_v14.out]
            have f2 : v14.frozen? ⟨Bx, 2, none⟩ = false := by simp [World.frozen?, EX_v14.out]
            have f3 : v14.frozen? ⟨Bx, 3, none⟩ = false := by simp [World.frozen?, EX_v14.out]
            have f4 : v14.frozen? ⟨Bx, 4, none⟩ = false := by simp [World.frozen?, EX_v14.out]
            have q0 : v14.cell? ⟨Bx, 0, none⟩ = some (.int .i64 0) := by simp [World.cell?, EX_v14.out]
            have q1 : v14.cell? ⟨Bx, 1, none⟩ = some (.int .i64 0) := by simp [World.cell?, EX_v14.out]
            have q2 : v14.cell? ⟨Bx, 2, none⟩ = some (.int .i64 0) := by simp [World.cell?, EX_v14.out]
            have q3 : v14.cell? ⟨Bx, 3, none⟩ = some (.int .i64 0) := by simp [World.cell?, EX_v14.out]
            have q4 : v14.cell? ⟨Bx, 4, none⟩ = some (.slice none 0 0) := by simp [World.cell?, EX_v14.out]
            go_simp
            have e1 := (E1_v14.out.ne EX_v14.out (by decide))
            have e2 := (E2_v14.out.ne EX_v14.out (by decide))
            have e3 := block_ne EY_v14.out EX_v14.out (by decide)
            have hX := set_five' EX_v14.out (.int .i64 s.cap) (.int .i64 s.can) (.int .i64 s.sl) (.int .i64 s.sh) (.slice A s.ns.length cp)
            have h1 := ((((E1_v14.out.other (i := 0) (x := .int .i64 s.cap) e1).other (i := 1) (x := .int .i64 s.can) e1).other (i := 2) (x := .int .i64 s.sl) e1).other (i := 3) (x := .int .i64 s.sh) e1).other (i := 4) (x := .slice A s.ns.length cp) e1
            have h2 := ((((E2_v14.out.other (i := 0) (x := .int .i64 s.cap) e2).other (i := 1) (x := .int .i64 s.can) e2).other (i := 2) (x := .int .i64 s.sl) e2).other (i := 3) (x := .int .i64 s.sh) e2).other (i := 4) (x := .slice A s.ns.length cp) e2
            have hY : (((((v14.setCell ⟨Bx, 0, none⟩ (.int .i64 s.cap)).setCell ⟨Bx, 1, none⟩ (.int .i64 s.can)).setCell ⟨Bx, 2, none⟩ (.int .i64 s.sl)).setCell ⟨Bx, 3, none⟩ (.int .i64 s.sh)).setCell ⟨Bx, 4, none⟩ (.slice A s.ns.length cp)).heap[By]? = some (.cells #[.slice none 0 0, .slice none 0 0] 29 (0, 0)) := ((Below.heap_setCell _ _ _ _ e3).trans ((Below.heap_setCell _ _ _ _ e3).trans ((Below.heap_setCell _ _ _ _ e3).trans ((Below.heap_setCell _ _ _ _ e3).trans (Below.heap_setCell _ _ _ _ e3))))).trans EY_v14.out
            have hb : Below w2.heap.size w2 (((((v14.setCell ⟨Bx, 0, none⟩ (.int .i64 s.cap)).setCell ⟨Bx, 1, none⟩ (.int .i64 s.can)).setCell ⟨Bx, 2, none⟩ (.int .i64 s.sl)).setCell ⟨Bx, 3, none⟩ (.int .i64 s.sh)).setCell ⟨Bx, 4, none⟩ (.slice A s.ns.length cp)) := ((((HX_v14.out.setCell bBx _).setCell bBx _).setCell bBx _).setCell bBx _).setCell bBx _
            generalize (((((v14.setCell ⟨Bx, 0, none⟩ (.int .i64 s.cap)).setCell ⟨Bx, 1, none⟩ (.int .i64 s.can)).setCell ⟨Bx, 2, none⟩ (.int .i64 s.sl)).setCell ⟨Bx, 3, none⟩ (.int .i64 s.sh)).setCell ⟨Bx, 4, none⟩ (.slice A s.ns.length cp)) = u1 at hX h1 h2 hY hb ⊢
            have HX_u1 := Lib.hid hb
            have EX_u1 := Lib.hid hX
            have EY_u1 := Lib.hid hY
            have E1_u1 := Lib.hid h1
            have E2_u1 := Lib.hid h2
            clear hb hX hY h1 h2 e1 e2 e3 f0 f1 f2 f3 f4 q0 q1 q2 q3 q4
            refine hK.out _ _ ((HS.out _ HX_u1.out)) (fun hS5 => ?_)
            clear hS4 hK K
            refine wpAnyH_ready (rs := [11]) (by kernel_rfl) (by simp) (AllReadyH.cons (o := ⟨none, .store 29 (.tmp 12) (.tmp 35), 0, "outright.go:256", #[⟨9, .data⟩, ⟨7, .data⟩, ⟨10, .chain⟩, ⟨0, .phase⟩, ⟨1, .phase⟩, ⟨2, .phase⟩, ⟨3, .phase⟩, ⟨4, .phase⟩, ⟨5, .phase⟩, ⟨6, .phase⟩, ⟨7, .phase⟩, ⟨8, .phase⟩, ⟨9, .phase⟩, ⟨10, .phase⟩], none⟩) rfl (fun K hK => ?_) AllReadyH.nil)
            have f0 : u1.frozen? ⟨By, 0, none⟩ = false := by simp [World.frozen?, EY_u1.out]
            have f1 : u1.frozen? ⟨By, 1, none⟩ = false := by simp [World.frozen?, EY_u1.out]
            have q0 : u1.cell? ⟨By, 0, none⟩ = some (.slice none 0 0) := by simp [World.cell?, EY_u1.out]
            have q1 : u1.cell? ⟨By, 1, none⟩ = some (.slice none 0 0) := by simp [World.cell?, EY_u1.out]
            go_simp
            have e1 := (E1_u1.out.ne EY_u1.out (by decide))
            have e2 := (E2_u1.out.ne EY_u1.out (by decide))
            have e3 := block_ne EX_u1.out EY_u1.out (by decide)
            have hY := set_two EY_u1.out (.slice (some ⟨g1, 0, none⟩) c.length c1) (.slice (some ⟨g2, 0, none⟩) k.length c2)
            have h1 := (E1_u1.out.other (i := 0) (x := .slice (some ⟨g1, 0, none⟩) c.length c1) e1).other (i := 1) (x := .slice (some ⟨g2, 0, none⟩) k.length c2) e1
            have h2 := (E2_u1.out.other (i := 0) (x := .slice (some ⟨g1, 0, none⟩) c.length c1) e2).other (i := 1) (x := .slice (some ⟨g2, 0, none⟩) k.length c2) e2
            have hX : ((u1.setCell ⟨By, 0, none⟩ (.slice (some ⟨g1, 0, none⟩) c.length c1)).setCell ⟨By, 1, none⟩ (.slice (some ⟨g2, 0, none⟩) k.length c2)).heap[Bx]? = some (.cells #[.int .i64 s.cap, .int .i64 s.can, .int .i64 s.sl, .int .i64 s.sh, .slice A s.ns.length cp] 26 (0, 0)) := ((Below.heap_setCell _ _ _ _ e3).trans (Below.heap_setCell _ _ _ _ e3)).trans EX_u1.out
            have hb : Below w2.heap.size w2 ((u1.setCell ⟨By, 0, none⟩ (.slice (some ⟨g1, 0, none⟩) c.length c1)).setCell ⟨By, 1, none⟩ (.slice (some ⟨g2, 0, none⟩) k.length c2)) := (HX_u1.out.setCell bBy _).setCell bBy _
            have HM := Lib.hid (show MadeXY s A cp s.sl s.sh c k w2 Bx By g1 c1 g2 c2 ((u1.setCell ⟨By, 0, none⟩ (.slice (some ⟨g1, 0, none⟩) c.length c1)).setCell ⟨By, 1, none⟩ (.slice (some ⟨g2, 0, none⟩) k.length c2)) from ⟨hX, hY, h1, h2, g12, bBx, bBy, bg1, bg2, hb⟩)
            generalize ((u1.setCell ⟨By, 0, none⟩ (.slice (some ⟨g1, 0, none⟩) c.length c1)).setCell ⟨By, 1, none⟩ (.slice (some ⟨g2, 0, none⟩) k.length c2)) = u2 at HM hb ⊢
            have HU2 := Lib.hid hb
            clear hb hX hY h1 h2 e1 e2 e3 f0 f1 q0 q1
            refine hK.out _ _ ((HS.out _ HU2.out)) (fun hS6 => ?_)
            clear hS5 hK K
            refine wpAnyH_done (by kernel_rfl) ?_ _
            clear hS6
            go_wp2_with fail
            go_meet
            case rel => exact ⟨Bx, By, g1, c1, g2, c2, rfl, rfl, HM.out⟩
          · skip
            go_simp
            have hb : Below v12.heap.size v12 (v12.alloc (.cells #[.int .i64 0, .int .i64 0, .int .i64 0, .int .i64 0, .slice none 0 0] 26)) := (Below.refl _ _).alloc (Nat.le_refl _) _
            have hE := Go.heap_alloc_new v12 (.cells #[.int .i64 0, .int .i64 0, .int .i64 0, .int .i64 0, .slice none 0 0] 26)
            have bBx : w2.heap.size ≤ v12.heap.size := HX_v12.out.size
            obtain ⟨Bx, hBx⟩ : ∃ B, v12.heap.size = B := ⟨_, rfl⟩
            rw [hBx] at hE bBx
            rw [hBx]
            clear hBx
            generalize v12.alloc (.cells #[.int .i64 0, .int .i64 0, .int .i64 0, .int .i64 0, .slice none 0 0] 26) = v15 at hb hE ⊢
            have HX_v15 := Lib.hid (HX_v12.out.trans (hb.mono HX_v12.out.size))
            have EX_v15 := Lib.hid hE
            have E1_v15 := Lib.hid (E1_v12.out.keep hb (Nat.le_refl _))
            have EY_v15 := Lib.hid ((hb.block By (Array.getElem?_eq_some_iff.1 EY_v12.out).1).trans EY_v12.out)
            clear hE hb
            refine hK.out _ _ ((HS.out _ HX_v15.out)) (fun hS3 => ?_)
            clear hS2 hK K
            refine wpAnyH_ready (rs := [6]) (by kernel_rfl) (by simp) (AllReadyH.cons (o := ⟨some 34, .call ⟨.value (.func 34), #[.tmp 33], #[27]⟩, 27, "outright.go:256", #[⟨5, .data⟩, ⟨3, .chain⟩], none⟩) rfl (fun K hK => ?_) AllReadyH.nil)
            go_simp
            refine (list_new Ak ck k v15 n2 (HK.out.keep (HB2.out.trans (HX_v15.out.mono HB2.out.size)) (Nat.le_refl _)) k9 kpos).mono ?_
            rintro e v16 ⟨g2, c2, rfl, hE, hge, hb⟩
            have HX_v16 := Lib.hid (HX_v15.out.trans (hb.mono HX_v15.out.size))
            have E2_v16 := Lib.hid hE
            have bg2 : w2.heap.size ≤ g2 := Nat.le_trans HX_v15.out.size hge
            have g12 : g1 ≠ g2 := by have := E1_v15.out.lt; omega
            have E1_v16 := Lib.hid (E1_v15.out.keep hb (Nat.le_refl _))
            have EY_v16 := Lib.hid ((hb.block By (Array.getElem?_eq_some_iff.1 EY_v15.out).1).trans EY_v15.out)
            have EX_v16 := Lib.hid ((hb.block Bx (Array.getElem?_eq_some_iff.1 EX_v15.out).1).trans EX_v15.out)
            clear hE hge hb
            go_wp2_with fail
            refine hK.out _ _ ((HS.out _ HX_v16.out)) (fun hS4 => ?_)
            clear hS3 hK K
            refine tkH 7 ⟨some 35, .build 29 #[(0, .tmp 31), (1, .tmp 34)], 29, "outright.go:256", #[⟨3, .data⟩, ⟨6, .data⟩, { on := 10, ground := Ground.gcOnly Departure.lateStores }], none⟩ (v := ?_) hS4 ?_ ?_
            rotate_left
            · intro X ⟨x0, x1, x2, x3, x4, x5, x6⟩; go_simp; try with_reducible rfl
            simp only [Act.put, List.setIfInBounds_toArray, List.set_cons_zero, List.set_cons_succ, Array.toArray_toList]
            refine wpAnyH_ready (rs := [10]) (by kernel_rfl) (by simp) (AllReadyH.cons (o := ⟨none, .store 26 (.tmp 11) (.tmp 28), 0, "outright.go:256", #[⟨8, .data⟩, ⟨0, .data⟩, ⟨6, .chain⟩, ⟨0, .phase⟩, ⟨1, .textOnly .lateStores⟩, ⟨2, .textOnly .lateStores⟩, ⟨3, .textOnly .lateStoresUnsure⟩, ⟨4, .textOnly .lateStores⟩, ⟨5, .textOnly .lateStores⟩, ⟨6, .textOnly .lateStoresUnsure⟩, ⟨7, .textOnly .lateStores⟩, ⟨8, .phase⟩, ⟨9, .phase⟩], none⟩) rfl (fun K hK => ?_) AllReadyH.nil)
            have f0 : v16.frozen? ⟨Bx, 0, none⟩ = false := by simp [World.frozen?, EX_v16.out]
            have f1 : v16.frozen? ⟨Bx, 1, none⟩ = false := by simp [World.frozen?, EX_v16.out]
            have f2 : v16.frozen? ⟨Bx, 2, none⟩ = false := by simp [World.frozen?, EX_v16.out]
            have f3 : v16.frozen? ⟨Bx, 3, none⟩ = false := by simp [World.frozen?, EX_v16.out]
            have f4 : v16.frozen? ⟨Bx, 4, none⟩ = false := by simp [World.frozen?, EX_v16.out]
            have q0 : v16.cell? ⟨Bx, 0, none⟩ = some (.int .i64 0) := by simp [World.cell?, EX_v16.out]
            have q1 : v16.cell? ⟨Bx, 1, none⟩ = some (.int .i64 0) := by simp [World.cell?, EX_v16.out]
            have q2 : v16.cell? ⟨Bx, 2, none⟩ = some (.int .i64 0) := by simp [World.cell?, EX_v16.out]
            have q3 : v16.cell? ⟨Bx, 3, none⟩ = some (.int .i64 0) := by simp [World.cell?, EX_v16.out]
            have q4 : v16.cell? ⟨Bx, 4, none⟩ = some (.slice none 0 0) := by simp [World.cell?, EX_v16.out]
            go_simp
            have e1 := (E1_v16.out.ne EX_v16.out (by decide))
            have e2 := (E2_v16.out.ne EX_v16.out (by decide))
            have e3 := block_ne EY_v16.out EX_v16.out (by decide)
            have hX := set_five' EX_v16.out (.int .i64 s.cap) (.int .i64 s.can) (.int .i64 s.sl) (.int .i64 s.sh) (.slice A s.ns.length cp)
            have h1 := ((((E1_v16.out.other (i := 0) (x := .int .i64 s.cap) e1).other (i := 1) (x := .int .i64 s.can) e1).other (i := 2) (x := .int .i64 s.sl) e1).other (i := 3) (x := .int .i64 s.sh) e1).other (i := 4) (x := .slice A s.ns.length cp) e1
            have h2 := ((((E2_v16.out.other (i := 0) (x := .int .i64 s.cap) e2).other (i := 1) (x := .int .i64 s.can) e2).other (i := 2) (x := .int .i64 s.sl) e2).other (i := 3) (x := .int .i64 s.sh) e2).other (i := 4) (x := .slice A s.ns.length cp) e2
            have hY : (((((v16.setCell ⟨Bx, 0, none⟩ (.int .i64 s.cap)).setCell ⟨Bx, 1, none⟩ (.int .i64 s.can)).setCell ⟨Bx, 2, none⟩ (.int .i64 s.sl)).setCell ⟨Bx, 3, none⟩ (.int .i64 s.sh)).setCell ⟨Bx, 4, none⟩ (.slice A s.ns.length cp)).heap[By]? = some (.cells #[.slice none 0 0, .slice none 0 0] 29 (0, 0)) := ((Below.heap_setCell _ _ _ _ e3).trans ((Below.heap_setCell _ _ _ _ e3).trans ((Below.heap_setCell _ _ _ _ e3).trans ((Below.heap_setCell _ _ _ _ e3).trans (Below.heap_setCell _ _ _ _ e3))))).trans EY_v16.out
            have hb : Below w2.heap.size w2 (((((v16.setCell ⟨Bx, 0, none⟩ (.int .i64 s.cap)).setCell ⟨Bx, 1, none⟩ (.int .i64 s.can)).setCell ⟨Bx, 2, none⟩ (.int .i64 s.sl)).setCell ⟨Bx, 3, none⟩ (.int .i64 s.sh)).setCell ⟨Bx, 4, none⟩ (.slice A s.ns.length cp)) := ((((HX_v16.out.setCell bBx _).setCell bBx _).setCell bBx _).setCell bBx _).setCell bBx _
            generalize (((((v16.setCell ⟨Bx, 0, none⟩ (.int .i64 s.cap)).setCell ⟨Bx, 1, none⟩ (.int .i64 s.can)).setCell ⟨Bx, 2, none⟩ (.int .i64 s.sl)).setCell ⟨Bx, 3, none⟩ (.int .i64 s.sh)).setCell ⟨Bx, 4, none⟩ (.slice A s.ns.length cp)) = u1 at hX h1 h2 hY hb ⊢
            have HX_u1 := Lib.hid hb
            have EX_u1 := Lib.hid hX
            have EY_u1 := Lib.hid hY
            have E1_u1 := Lib.hid h1
            have E2_u1 := Lib.hid h2
            clear hb hX hY h1 h2 e1 e2 e3 f0 f1 f2 f3 f4 q0 q1 q2 q3 q4
            refine hK.out _ _ ((HS.out _ HX_u1.out)) (fun hS5 => ?_)
            clear hS4 hK K
            refine wpAnyH_ready (rs := [11]) (by kernel_rfl) (by simp) (AllReadyH.cons (o := ⟨none, .store 29 (.tmp 12) (.tmp 35), 0, "outright.go:256", #[⟨9, .data⟩, ⟨7, .data⟩, ⟨10, .chain⟩, ⟨0, .phase⟩, ⟨1, .phase⟩, ⟨2, .phase⟩, ⟨3, .phase⟩, ⟨4, .phase⟩, ⟨5, .phase⟩, ⟨6, .phase⟩, ⟨7, .phase⟩, ⟨8, .phase⟩, ⟨9, .phase⟩, ⟨10, .phase⟩], none⟩) rfl (fun K hK => ?_) AllReadyH.nil)
            have f0 : u1.frozen? ⟨By, 0, none⟩ = false := by simp [World.frozen?, EY_u1.out]
            have f1 : u1.frozen? ⟨By, 1, none⟩ = false := by simp [World.frozen?, EY_u1.out]
            have q0 : u1.cell? ⟨By, 0, none⟩ = some (.slice none 0 0) := by simp [World.cell?, EY_u1.out]
            have q1 : u1.cell? ⟨By, 1, none⟩ = some (.slice none 0 0) := by simp [World.cell?, EY_u1.out]
            go_simp
            have e1 := (E1_u1.out.ne EY_u1.out (by decide))
            have e2 := (E2_u1.out.ne EY_u1.out (by decide))
            have e3 := block_ne EX_u1.out EY_u1.out (by decide)
            have hY := set_two EY_u1.out (.slice (some ⟨g1, 0, none⟩) c.length c1) (.slice (some ⟨g2, 0, none⟩) k.length c2)
            have h1 := (E1_u1.out.other (i := 0) (x := .slice (some ⟨g1, 0, none⟩) c.length c1) e1).other (i := 1) (x := .slice (some ⟨g2, 0, none⟩) k.length c2) e1
            have h2 := (E2_u1.out.other (i := 0) (x := .slice (some ⟨g1, 0, none⟩) c.length c1) e2).other (i := 1) (x := .slice (some ⟨g2, 0, none⟩) k.length c2) e2
            have hX : ((u1.setCell ⟨By, 0, none⟩ (.slice (some ⟨g1, 0, none⟩) c.length c1)).setCell ⟨By, 1, none⟩ (.slice (some ⟨g2, 0, none⟩) k.length c2)).heap[Bx]? = some (.cells #[.int .i64 s.cap, .int .i64 s.can, .int .i64 s.sl, .int .i64 s.sh, .slice A s.ns.length cp] 26 (0, 0)) := ((Below.heap_setCell _ _ _ _ e3).trans (Below.heap_setCell _ _ _ _ e3)).trans EX_u1.out
            have hb : Below w2.heap.size w2 ((u1.setCell ⟨By, 0, none⟩ (.slice (some ⟨g1, 0, none⟩) c.length c1)).setCell ⟨By, 1, none⟩ (.slice (some ⟨g2, 0, none⟩) k.length c2)) := (HX_u1.out.setCell bBy _).setCell bBy _
            have HM := Lib.hid (show MadeXY s A cp s.sl s.sh c k w2 Bx By g1 c1 g2 c2 ((u1.setCell ⟨By, 0, none⟩ (.slice (some ⟨g1, 0, none⟩) c.length c1)).setCell ⟨By, 1, none⟩ (.slice (some ⟨g2, 0, none⟩) k.length c2)) from ⟨hX, hY, h1, h2, g12, bBx, bBy, bg1, bg2, hb⟩)
            generalize ((u1.setCell ⟨By, 0, none⟩ (.slice (some ⟨g1, 0, none⟩) c.length c1)).setCell ⟨By, 1, none⟩ (.slice (some ⟨g2, 0, none⟩) k.length c2)) = u2 at HM hb ⊢
            have HU2 := Lib.hid hb
            clear hb hX hY h1 h2 e1 e2 e3 f0 f1 q0 q1
            refine hK.out _ _ ((HS.out _ HU2.out)) (fun hS6 => ?_)
            clear hS5 hK K
            refine wpAnyH_done (by kernel_rfl) ?_ _
            clear hS6
            go_wp2_with fail
            go_meet
            case rel => exact ⟨Bx, By, g1, c1, g2, c2, rfl, rfl, HM.out⟩
      · skip
        go_simp
        have hb : Below v0.heap.size v0 (v0.alloc (.cells #[.int .i64 0, .int .i64 0, .int .i64 0, .int .i64 0, .slice none 0 0] 26)) := (Below.refl _ _).alloc (Nat.le_refl _) _
        have hE := Go.heap_alloc_new v0 (.cells #[.int .i64 0, .int .i64 0, .int .i64 0, .int .i64 0, .slice none 0 0] 26)
        have bBx : w2.heap.size ≤ v0.heap.size := HX_v0.out.size
        obtain ⟨Bx, hBx⟩ : ∃ B, v0.heap.size = B := ⟨_, rfl⟩
        rw [hBx] at hE bBx
        rw [hBx]
        clear hBx
        generalize v0.alloc (.cells #[.int .i64 0, .int .i64 0, .int .i64 0, .int .i64 0, .slice none 0 0] 26) = v17 at hb hE ⊢
        have HX_v17 := Lib.hid (HX_v0.out.trans (hb.mono HX_v0.out.size))
        have EX_v17 := Lib.hid hE
        clear hE hb
        refine hK.out _ _ ((HS.out _ HX_v17.out)) (fun hS1 => ?_)
        clear hS0 hK K
        refine wpAnyH_ready (rs := [3, 9]) (by kernel_rfl) (by simp) (AllReadyH.cons (o := ⟨some 31, .call ⟨.value (.func 34), #[.tmp 30], #[27]⟩, 27, "outright.go:256", #[⟨2, .data⟩], none⟩) rfl (fun K hK => ?_) (AllReadyH.cons (o := ⟨some 12, .alloc 29, 0, "outright.go:256", #[], none⟩) rfl (fun K hK => ?_) AllReadyH.nil))
        · skip
          go_simp
          refine (list_new Ac cc c v17 n1 (HC.out.keep (HB2.out.trans (HX_v17.out.mono HB2.out.size)) (Nat.le_refl _)) c9 cpos).mono ?_
          rintro e v18 ⟨g1, c1, rfl, hE, hge, hb⟩
          have HX_v18 := Lib.hid (HX_v17.out.trans (hb.mono HX_v17.out.size))
          have E1_v18 := Lib.hid hE
          have bg1 : w2.heap.size ≤ g1 := Nat.le_trans HX_v17.out.size hge
          have EX_v18 := Lib.hid ((hb.block Bx (Array.getElem?_eq_some_iff.1 EX_v17.out).1).trans EX_v17.out)
          clear hE hge hb
          go_wp2_with fail
          refine hK.out _ _ ((HS.out _ HX_v18.out)) (fun hS2 => ?_)
          clear hS1 hK K
          refine wpAnyH_ready (rs := [6, 9]) (by kernel_rfl) (by simp) (AllReadyH.cons (o := ⟨some 34, .call ⟨.value (.func 34), #[.tmp 33], #[27]⟩, 27, "outright.go:256", #[⟨5, .data⟩, ⟨3, .chain⟩], none⟩) rfl (fun K hK => ?_) (AllReadyH.cons (o := ⟨some 12, .alloc 29, 0, "outright.go:256", #[], none⟩) rfl (fun K hK => ?_) AllReadyH.nil))
          · skip
            go_simp
            refine (list_new Ak ck k v18 n2 (HK.out.keep (HB2.out.trans (HX_v18.out.mono HB2.out.size)) (Nat.le_refl _)) k9 kpos).mono ?_
            rintro e v19 ⟨g2, c2, rfl, hE, hge, hb⟩
            have HX_v19 := Lib.hid (HX_v18.out.trans (hb.mono HX_v18.out.size))
            have E2_v19 := Lib.hid hE
            have bg2 : w2.heap.size ≤ g2 := Nat.le_trans HX_v18.out.size hge
            have g12 : g1 ≠ g2 := by have := E1_v18.out.lt; omega
            have EX_v19 := Lib.hid ((hb.block Bx (Array.getElem?_eq_some_iff.1 EX_v18.out).1).trans EX_v18.out)
            have E1_v19 := Lib.hid (E1_v18.out.keep hb (Nat.le_refl _))
            clear hE hge hb
            go_wp2_with fail
            refine hK.out _ _ ((HS.out _ HX_v19.out)) (fun hS3 => ?_)
            clear hS2 hK K
            refine tkH 7 ⟨some 35, .build 29 #[(0, .tmp 31), (1, .tmp 34)], 29, "outright.go:256", #[⟨3, .data⟩, ⟨6, .data⟩, { on := 10, ground := Ground.gcOnly Departure.lateStores }], none⟩ (v := ?_) hS3 ?_ ?_
            rotate_left
            · intro X ⟨x0, x1, x2, x3, x4, x5, x6⟩; go_simp; try with_reducible rfl
            simp only [Act.put, List.setIfInBounds_toArray, List.set_cons_zero, List.set_cons_succ, Array.toArray_toList]
            refine wpAnyH_ready (rs := [9]) (by kernel_rfl) (by simp) (AllReadyH.cons (o := ⟨some 12, .alloc 29, 0, "outright.go:256", #[], none⟩) rfl (fun K hK => ?_) AllReadyH.nil)
            go_simp
            have hb : Below v19.heap.size v19 (v19.alloc (.cells #[.slice none 0 0, .slice none 0 0] 29)) := (Below.refl _ _).alloc (Nat.le_refl _) _
            have hE := Go.heap_alloc_new v19 (.cells #[.slice none 0 0, .slice none 0 0] 29)
            have bBy : w2.heap.size ≤ v19.heap.size := HX_v19.out.size
            obtain ⟨By, hBy⟩ : ∃ B, v19.heap.size = B := ⟨_, rfl⟩
            rw [hBy] at hE bBy
            rw [hBy]
            clear hBy
            generalize v19.alloc (.cells #[.slice none 0 0, .slice none 0 0] 29) = v20 at hb hE ⊢
            have HX_v20 := Lib.hid (HX_v19.out.trans (hb.mono HX_v19.out.size))
            have EY_v20 := Lib.hid hE
            have EX_v20 := Lib.hid ((hb.block Bx (Array.getElem?_eq_some_iff.1 EX_v19.out).1).trans EX_v19.out)
            have E1_v20 := Lib.hid (E1_v19.out.keep hb (Nat.le_refl _))
            have E2_v20 := Lib.hid (E2_v19.out.keep hb (Nat.le_refl _))
            clear hE hb
            refine hK.out _ _ ((HS.out _ HX_v20.out)) (fun hS4 => ?_)
            clear hS3 hK K
            refine wpAnyH_ready (rs := [10]) (by kernel_rfl) (by simp) (AllReadyH.cons (o := ⟨none, .store 26 (.tmp 11) (.tmp 28), 0, "outright.go:256", #[⟨8, .data⟩, ⟨0, .data⟩, ⟨6, .chain⟩, ⟨0, .phase⟩, ⟨1, .textOnly .lateStores⟩, ⟨2, .textOnly .lateStores⟩, ⟨3, .textOnly .lateStoresUnsure⟩, ⟨4, .textOnly .lateStores⟩, ⟨5, .textOnly .lateStores⟩, ⟨6, .textOnly .lateStoresUnsure⟩, ⟨7, .textOnly .lateStores⟩, ⟨8, .phase⟩, ⟨9, .phase⟩], none⟩) rfl (fun K hK => ?_) AllReadyH.nil)
            have f0 : v20.frozen? ⟨Bx, 0, none⟩ = false := by simp [World.frozen?, EX_v20.out]
            have f1 : v20.frozen? ⟨Bx, 1, none⟩ = false := by simp [World.frozen?, EX_v20.out]
            have f2 : v20.frozen? ⟨Bx, 2, none⟩ = false := by simp [World.frozen?, EX_v20.out]
            have f3 : v20.frozen? ⟨Bx, 3, none⟩ = false := by simp [World.frozen?, EX_v20.out]
            have f4 : v20.frozen? ⟨Bx, 4, none⟩ = false := by simp [World.frozen?, EX_v20.out]
            have q0 : v20.cell? ⟨Bx, 0, none⟩ = some (.int .i64 0) := by simp [World.cell?, EX_v20.out]
            have q1 : v20.cell? ⟨Bx, 1, none⟩ = some (.int .i64 0) := by simp [World.cell?, EX_v20.out]
            have q2 : v20.cell? ⟨Bx, 2, none⟩ = some (.int .i64 0) := by simp [World.cell?, EX_v20.out]
            have q3 : v20.cell? ⟨Bx, 3, none⟩ = some (.int .i64 0) := by simp [World.cell?, EX_v20.out]
            have q4 : v20.cell? ⟨Bx, 4, none⟩ = some (.slice none 0 0) := by simp [World.cell?, EX_v20.out]
            go_simp
            have e1 := (E1_v20.out.ne EX_v20.out (by decide))
            have e2 := (E2_v20.out.ne EX_v20.out (by decide))
            have e3 := block_ne EY_v20.out EX_v20.out (by decide)
            have hX := set_five' EX_v20.out (.int .i64 s.cap) (.int .i64 s.can) (.int .i64 s.sl) (.int .i64 s.sh) (.slice A s.ns.length cp)
            have h1 := ((((E1_v20.out.other (i := 0) (x := .int .i64 s.cap) e1).other (i := 1) (x := .int .i64 s.can) e1).other (i := 2) (x := .int .i64 s.sl) e1).other (i := 3) (x := .int .i64 s.sh) e1).other (i := 4) (x := .slice A s.ns.length cp) e1
            have h2 := ((((E2_v20.out.other (i := 0) (x := .int .i64 s.cap) e2).other (i := 1) (x := .int .i64 s.can) e2).other (i := 2) (x := .int .i64 s.sl) e2).other (i := 3) (x := .int .i64 s.sh) e2).other (i := 4) (x := .slice A s.ns.length cp) e2
            have hY : (((((v20.setCell ⟨Bx, 0, none⟩ (.int .i64 s.cap)).setCell ⟨Bx, 1, none⟩ (.int .i64 s.can)).setCell ⟨Bx, 2, none⟩ (.int .i64 s.sl)).setCell ⟨Bx, 3, none⟩ (.int .i64 s.sh)).setCell ⟨Bx, 4, none⟩ (.slice A s.ns.length cp)).heap[By]? = some (.cells #[.slice none 0 0, .slice none 0 0] 29 (0, 0)) := ((Below.heap_setCell _ _ _ _ e3).trans ((Below.heap_setCell _ _ _ _ e3).trans ((Below.heap_setCell _ _ _ _ e3).trans ((Below.heap_setCell _ _ _ _ e3).trans (Below.heap_setCell _ _ _ _ e3))))).trans EY_v20.out
            have hb : Below w2.heap.size w2 (((((v20.setCell ⟨Bx, 0, none⟩ (.int .i64 s.cap)).setCell ⟨Bx, 1, none⟩ (.int .i64 s.can)).setCell ⟨Bx, 2, none⟩ (.int .i64 s.sl)).setCell ⟨Bx, 3, none⟩ (.int .i64 s.sh)).setCell ⟨Bx, 4, none⟩ (.slice A s.ns.length cp)) := ((((HX_v20.out.setCell bBx _).setCell bBx _).setCell bBx _).setCell bBx _).setCell bBx _
            generalize (((((v20.setCell ⟨Bx, 0, none⟩ (.int .i64 s.cap)).setCell ⟨Bx, 1, none⟩ (.int .i64 s.can)).setCell ⟨Bx, 2, none⟩ (.int .i64 s.sl)).setCell ⟨Bx, 3, none⟩ (.int .i64 s.sh)).setCell ⟨Bx, 4, none⟩ (.slice A s.ns.length cp)) = u1 at hX h1 h2 hY hb ⊢
            have HX_u1 := Lib.hid hb
            have EX_u1 := Lib.hid hX
            have EY_u1 := Lib.hid hY
            have E1_u1 := Lib.hid h1
            have E2_u1 := Lib.hid h2
            clear hb hX hY h1 h2 e1 e2 e3 f0 f1 f2 f3 f4 q0 q1 q2 q3 q4
            refine hK.out _ _ ((HS.out _ HX_u1.out)) (fun hS5 => ?_)
            clear hS4 hK K
            refine wpAnyH_ready (rs := [11]) (by kernel_rfl) (by simp) (AllReadyH.cons (o := ⟨none, .store 29 (.tmp 12) (.tmp 35), 0, "outright.go:256", #[⟨9, .data⟩, ⟨7, .data⟩, ⟨10, .chain⟩, ⟨0, .phase⟩, ⟨1, .phase⟩, ⟨2, .phase⟩, ⟨3, .phase⟩, ⟨4, .phase⟩, ⟨5, .phase⟩, ⟨6, .phase⟩, ⟨7, .phase⟩, ⟨8, .phase⟩, ⟨9, .phase⟩, ⟨10, .phase⟩], none⟩) rfl (fun K hK => ?_) AllReadyH.nil)
            have f0 : u1.frozen? ⟨By, 0, none⟩ = false := by simp [World.frozen?, EY_u1.out]
            have f1 : u1.frozen? ⟨By, 1, none⟩ = false := by simp [World.frozen?, EY_u1.out]
            have q0 : u1.cell? ⟨By, 0, none⟩ = some (.slice none 0 0) := by simp [World.cell?, EY_u1.out]
            have q1 : u1.cell? ⟨By, 1, none⟩ = some (.slice none 0 0) := by simp [World.cell?, EY_u1.out]
            go_simp
            have e1 := (E1_u1.out.ne EY_u1.out (by decide))
            have e2 := (E2_u1.out.ne EY_u1.out (by decide))
            have e3 := block_ne EX_u1.out EY_u1.out (by decide)
            have hY := set_two EY_u1.out (.slice (some ⟨g1, 0, none⟩) c.length c1) (.slice (some ⟨g2, 0, none⟩) k.length c2)
            have h1 := (E1_u1.out.other (i := 0) (x := .slice (some ⟨g1, 0, none⟩) c.length c1) e1).other (i := 1) (x := .slice (some ⟨g2, 0, none⟩) k.length c2) e1
            have h2 := (E2_u1.out.other (i := 0) (x := .slice (some ⟨g1, 0, none⟩) c.length c1) e2).other (i := 1) (x := .slice (some ⟨g2, 0, none⟩) k.length c2) e2
            have hX : ((u1.setCell ⟨By, 0, none⟩ (.slice (some ⟨g1, 0, none⟩) c.length c1)).setCell ⟨By, 1, none⟩ (.slice (some ⟨g2, 0, none⟩) k.length c2)).heap[Bx]? = some (.cells #[.int .i64 s.cap, .int .i64 s.can, .int .i64 s.sl, .int .i64 s.sh, .slice A s.ns.length cp] 26 (0, 0)) := ((Below.heap_setCell _ _ _ _ e3).trans (Below.heap_setCell _ _ _ _ e3)).trans EX_u1.out
            have hb : Below w2.heap.size w2 ((u1.setCell ⟨By, 0, none⟩ (.slice (some ⟨g1, 0, none⟩) c.length c1)).setCell ⟨By, 1, none⟩ (.slice (some ⟨g2, 0, none⟩) k.length c2)) := (HX_u1.out.setCell bBy _).setCell bBy _
            have HM := Lib.hid (show MadeXY s A cp s.sl s.sh c k w2 Bx By g1 c1 g2 c2 ((u1.setCell ⟨By, 0, none⟩ (.slice (some ⟨g1, 0, none⟩) c.length c1)).setCell ⟨By, 1, none⟩ (.slice (some ⟨g2, 0, none⟩) k.length c2)) from ⟨hX, hY, h1, h2, g12, bBx, bBy, bg1, bg2, hb⟩)
            generalize ((u1.setCell ⟨By, 0, none⟩ (.slice (some ⟨g1, 0, none⟩) c.length c1)).setCell ⟨By, 1, none⟩ (.slice (some ⟨g2, 0, none⟩) k.length c2)) = u2 at HM hb ⊢
            have HU2 := Lib.hid hb
            clear hb hX hY h1 h2 e1 e2 e3 f0 f1 q0 q1
            refine hK.out _ _ ((HS.out _ HU2.out)) (fun hS6 => ?_)
            clear hS5 hK K
            refine wpAnyH_done (by kernel_rfl) ?_ _
            clear hS6
            go_wp2_with fail
            go_meet
            case rel => exact ⟨Bx, By, g1, c1, g2, c2, rfl, rfl, HM.out⟩
          · skip
            go_simp
            have hb : Below v18.heap.size v18 (v18.alloc (.cells #[.slice none 0 0, .slice none 0 0] 29)) := (Below.refl _ _).alloc (Nat.le_refl _) _
            have hE := Go.heap_alloc_new v18 (.cells #[.slice none 0 0, .slice none 0 0] 29)
            have bBy : w2.heap.size ≤ v18.heap.size := HX_v18.out.size
            obtain ⟨By, hBy⟩ : ∃ B, v18.heap.size = B := ⟨_, rfl⟩
            rw [hBy] at hE bBy
            rw [hBy]
            clear hBy
            generalize v18.alloc (.cells #[.slice none 0 0, .slice none 0 0] 29) = v21 at hb hE ⊢
            have HX_v21 := Lib.hid (HX_v18.out.trans (hb.mono HX_v18.out.size))
            have EY_v21 := Lib.hid hE
            have EX_v21 := Lib.hid ((hb.block Bx (Array.getElem?_eq_some_iff.1 EX_v18.out).1).trans EX_v18.out)
            have E1_v21 := Lib.hid (E1_v18.out.keep hb (Nat.le_refl _))
            clear hE hb
            refine hK.out _ _ ((HS.out _ HX_v21.out)) (fun hS3 => ?_)
            clear hS2 hK K
            refine wpAnyH_ready (rs := [6]) (by kernel_rfl) (by simp) (AllReadyH.cons (o := ⟨some 34, .call ⟨.value (.func 34), #[.tmp 33], #[27]⟩, 27, "outright.go:256", #[⟨5, .data⟩, ⟨3, .chain⟩], none⟩) rfl (fun K hK => ?_) AllReadyH.nil)
            go_simp
            refine (list_new Ak ck k v21 n2 (HK.out.keep (HB2.out.trans (HX_v21.out.mono HB2.out.size)) (Nat.le_refl _)) k9 kpos).mono ?_
            rintro e v22 ⟨g2, c2, rfl, hE, hge, hb⟩
            have HX_v22 := Lib.hid (HX_v21.out.trans (hb.mono HX_v21.out.size))
            have E2_v22 := Lib.hid hE
            have bg2 : w2.heap.size ≤ g2 := Nat.le_trans HX_v21.out.size hge
            have g12 : g1 ≠ g2 := by have := E1_v21.out.lt; omega
            have EX_v22 := Lib.hid ((hb.block Bx (Array.getElem?_eq_some_iff.1 EX_v21.out).1).trans EX_v21.out)
            have E1_v22 := Lib.hid (E1_v21.out.keep hb (Nat.le_refl _))
            have EY_v22 := Lib.hid ((hb.block By (Array.getElem?_eq_some_iff.1 EY_v21.out).1).trans EY_v21.out)
            clear hE hge hb
            go_wp2_with fail
            refine hK.out _ _ ((HS.out _ HX_v22.out)) (fun hS4 => ?_)
            clear hS3 hK K
            refine tkH 7 ⟨some 35, .build 29 #[(0, .tmp 31), (1, .tmp 34)], 29, "outright.go:256", #[⟨3, .data⟩, ⟨6, .data⟩, { on := 10, ground := Ground.gcOnly Departure.lateStores }], none⟩ (v := ?_) hS4 ?_ ?_
            rotate_left
            · intro X ⟨x0, x1, x2, x3, x4, x5, x6⟩; go_simp; try with_reducible rfl
            simp only [Act.put, List.setIfInBounds_toArray, List.set_cons_zero, List.set_cons_succ, Array.toArray_toList]
            refine wpAnyH_ready (rs := [10]) (by kernel_rfl) (by simp) (AllReadyH.cons (o := ⟨none, .store 26 (.tmp 11) (.tmp 28), 0, "outright.go:256", #[⟨8, .data⟩, ⟨0, .data⟩, ⟨6, .chain⟩, ⟨0, .phase⟩, ⟨1, .textOnly .lateStores⟩, ⟨2, .textOnly .lateStores⟩, ⟨3, .textOnly .lateStoresUnsure⟩, ⟨4, .textOnly .lateStores⟩, ⟨5, .textOnly .lateStores⟩, ⟨6, .textOnly .lateStoresUnsure⟩, ⟨7, .textOnly .lateStores⟩, ⟨8, .phase⟩, ⟨9, .phase⟩], none⟩) rfl (fun K hK => ?_) AllReadyH.nil)
            have f0 : v22.frozen? ⟨Bx, 0, none⟩ = false := by simp [World.frozen?, EX_v22.out]
            have f1 : v22.frozen? ⟨Bx, 1, none⟩ = false := by simp [World.frozen?, EX_v22.out]
            have f2 : v22.frozen? ⟨Bx, 2, none⟩ = false := by simp [World.frozen?, EX_v22.out]
            have f3 : v22.frozen? ⟨Bx, 3, none⟩ = false := by simp [World.frozen?, EX_v22.out]
            have f4 : v22.frozen? ⟨Bx, 4, none⟩ = false := by simp [World.frozen?, EX_v22.out]
            have q0 : v22.cell? ⟨Bx, 0, none⟩ = some (.int .i64 0) := by simp [World.cell?, EX_v22.out]
            have q1 : v22.cell? ⟨Bx, 1, none⟩ = some (.int .i64 0) := by simp [World.cell?, EX_v22.out]
            have q2 : v22.cell? ⟨Bx, 2, none⟩ = some (.int .i64 0) := by simp [World.cell?, EX_v22.out]
            have q3 : v22.cell? ⟨Bx, 3, none⟩ = some (.int .i64 0) := by simp [World.cell?, EX_v22.out]
            have q4 : v22.cell? ⟨Bx, 4, none⟩ = some (.slice none 0 0) := by simp [World.cell?, EX_v22.out]
            go_simp
            have e1 := (E1_v22.out.ne EX_v22.out (by decide))
            have e2 := (E2_v22.out.ne EX_v22.out (by decide))
            have e3 := block_ne EY_v22.out EX_v22.out (by decide)
            have hX := set_five' EX_v22.out (.int .i64 s.cap) (.int .i64 s.can) (.int .i64 s.sl) (.int .i64 s.sh) (.slice A s.ns.length cp)
            have h1 := ((((E1_v22.out.other (i := 0) (x := .int .i64 s.cap) e1).other (i := 1) (x := .int .i64 s.can) e1).other (i := 2) (x := .int .i64 s.sl) e1).other (i := 3) (x := .int .i64 s.sh) e1).other (i := 4) (x := .slice A s.ns.length cp) e1
            have h2 := ((((E2_v22.out.other (i := 0) (x := .int .i64 s.cap) e2).other (i := 1) (x := .int .i64 s.can) e2).other (i := 2) (x := .int .i64 s.sl) e2).other (i := 3) (x := .int .i64 s.sh) e2).other (i := 4) (x := .slice A s.ns.length cp) e2
            have hY : (((((v22.setCell ⟨Bx, 0, none⟩ (.int .i64 s.cap)).setCell ⟨Bx, 1, none⟩ (.int .i64 s.can)).setCell ⟨Bx, 2, none⟩ (.int .i64 s.sl)).setCell ⟨Bx, 3, none⟩ (.int .i64 s.sh)).setCell ⟨Bx, 4, none⟩ (.slice A s.ns.length cp)).heap[By]? = some (.cells #[.slice none 0 0, .slice none 0 0] 29 (0, 0)) := ((Below.heap_setCell _ _ _ _ e3).trans ((Below.heap_setCell _ _ _ _ e3).trans ((Below.heap_setCell _ _ _ _ e3).trans ((Below.heap_setCell _ _ _ _ e3).trans (Below.heap_setCell _ _ _ _ e3))))).trans EY_v22.out
            have hb : Below w2.heap.size w2 (((((v22.setCell ⟨Bx, 0, none⟩ (.int .i64 s.cap)).setCell ⟨Bx, 1, none⟩ (.int .i64 s.can)).setCell ⟨Bx, 2, none⟩ (.int .i64 s.sl)).setCell ⟨Bx, 3, none⟩ (.int .i64 s.sh)).setCell ⟨Bx, 4, none⟩ (.slice A s.ns.length cp)) := ((((HX_v22.out.setCell bBx _).setCell bBx _).setCell bBx _).setCell bBx _).setCell bBx _
            generalize (((((v22.setCell ⟨Bx, 0, none⟩ (.int .i64 s.cap)).setCell ⟨Bx, 1, none⟩ (.int .i64 s.can)).setCell ⟨Bx, 2, none⟩ (.int .i64 s.sl)).setCell ⟨Bx, 3, none⟩ (.int .i64 s.sh)).setCell ⟨Bx, 4, none⟩ (.slice A s.ns.length cp)) = u1 at hX h1 h2 hY hb ⊢
            have HX_u1 := Lib.hid hb
            have EX_u1 := Lib.hid hX
            have EY_u1 := Lib.hid hY
            have E1_u1 := Lib.hid h1
            have E2_u1 := Lib.hid h2
            clear hb hX hY h1 h2 e1 e2 e3 f0 f1 f2 f3 f4 q0 q1 q2 q3 q4
            refine hK.out _ _ ((HS.out _ HX_u1.out)) (fun hS5 => ?_)
            clear hS4 hK K
            refine wpAnyH_ready (rs := [11]) (by kernel_rfl) (by simp) (AllReadyH.cons (o := ⟨none, .store 29 (.tmp 12) (.tmp 35), 0, "outright.go:256", #[⟨9, .data⟩, ⟨7, .data⟩, ⟨10, .chain⟩, ⟨0, .phase⟩, ⟨1, .phase⟩, ⟨2, .phase⟩, ⟨3, .phase⟩, ⟨4, .phase⟩, ⟨5, .phase⟩, ⟨6, .phase⟩, ⟨7, .phase⟩, ⟨8, .phase⟩, ⟨9, .phase⟩, ⟨10, .phase⟩], none⟩) rfl (fun K hK => ?_) AllReadyH.nil)
            have f0 : u1.frozen? ⟨By, 0, none⟩ = false := by simp [World.frozen?, EY_u1.out]
            have f1 : u1.frozen? ⟨By, 1, none⟩ = false := by simp [World.frozen?, EY_u1.out]
            have q0 : u1.cell? ⟨By, 0, none⟩ = some (.slice none 0 0) := by simp [World.cell?, EY_u1.out]
            have q1 : u1.cell? ⟨By, 1, none⟩ = some (.slice none 0 0) := by simp [World.cell?, EY_u1.out]
            go_simp
            have e1 := (E1_u1.out.ne EY_u1.out (by decide))
            have e2 := (E2_u1.out.ne EY_u1.out (by decide))
            have e3 := block_ne EX_u1.out EY_u1.out (by decide)
            have hY := set_two EY_u1.out (.slice (some ⟨g1, 0, none⟩) c.length c1) (.slice (some ⟨g2, 0, none⟩) k.length c2)
            have h1 := (E1_u1.out.other (i := 0) (x := .slice (some ⟨g1, 0, none⟩) c.length c1) e1).other (i := 1) (x := .slice (some ⟨g2, 0, none⟩) k.length c2) e1
            have h2 := (E2_u1.out.other (i := 0) (x := .slice (some ⟨g1, 0, none⟩) c.length c1) e2).other (i := 1) (x := .slice (some ⟨g2, 0, none⟩) k.length c2) e2
            have hX : ((u1.setCell ⟨By, 0, none⟩ (.slice (some ⟨g1, 0, none⟩) c.length c1)).setCell ⟨By, 1, none⟩ (.slice (some ⟨g2, 0, none⟩) k.length c2)).heap[Bx]? = some (.cells #[.int .i64 s.cap, .int .i64 s.can, .int .i64 s.sl, .int .i64 s.sh, .slice A s.ns.length cp] 26 (0, 0)) := ((Below.heap_setCell _ _ _ _ e3).trans (Below.heap_setCell _ _ _ _ e3)).trans EX_u1.out
            have hb : Below w2.heap.size w2 ((u1.setCell ⟨By, 0, none⟩ (.slice (some ⟨g1, 0, none⟩) c.length c1)).setCell ⟨By, 1, none⟩ (.slice (some ⟨g2, 0, none⟩) k.length c2)) := (HX_u1.out.setCell bBy _).setCell bBy _
            have HM := Lib.hid (show MadeXY s A cp s.sl s.sh c k w2 Bx By g1 c1 g2 c2 ((u1.setCell ⟨By, 0, none⟩ (.slice (some ⟨g1, 0, none⟩) c.length c1)).setCell ⟨By, 1, none⟩ (.slice (some ⟨g2, 0, none⟩) k.length c2)) from ⟨hX, hY, h1, h2, g12, bBx, bBy, bg1, bg2, hb⟩)
            generalize ((u1.setCell ⟨By, 0, none⟩ (.slice (some ⟨g1, 0, none⟩) c.length c1)).setCell ⟨By, 1, none⟩ (.slice (some ⟨g2, 0, none⟩) k.length c2)) = u2 at HM hb ⊢
            have HU2 := Lib.hid hb
            clear hb hX hY h1 h2 e1 e2 e3 f0 f1 q0 q1
            refine hK.out _ _ ((HS.out _ HU2.out)) (fun hS6 => ?_)
            clear hS5 hK K
            refine wpAnyH_done (by kernel_rfl) ?_ _
            clear hS6
            go_wp2_with fail
            go_meet
            case rel => exact ⟨Bx, By, g1, c1, g2, c2, rfl, rfl, HM.out⟩
        · skip
          go_simp
          have hb : Below v17.heap.size v17 (v17.alloc (.cells #[.slice none 0 0, .slice none 0 0] 29)) := (Below.refl _ _).alloc (Nat.le_refl _) _
          have hE := Go.heap_alloc_new v17 (.cells #[.slice none 0 0, .slice none 0 0] 29)
          have bBy : w2.heap.size ≤ v17.heap.size := HX_v17.out.size
          obtain ⟨By, hBy⟩ : ∃ B, v17.heap.size = B := ⟨_, rfl⟩
          rw [hBy] at hE bBy
          rw [hBy]
          clear hBy
          generalize v17.alloc (.cells #[.slice none 0 0, .slice none 0 0] 29) = v23 at hb hE ⊢
          have HX_v23 := Lib.hid (HX_v17.out.trans (hb.mono HX_v17.out.size))
          have EY_v23 := Lib.hid hE
          have EX_v23 := Lib.hid ((hb.block Bx (Array.getElem?_eq_some_iff.1 EX_v17.out).1).trans EX_v17.out)
          clear hE hb
          refine hK.out _ _ ((HS.out _ HX_v23.out)) (fun hS2 => ?_)
          clear hS1 hK K
          refine wpAnyH_ready (rs := [3]) (by kernel_rfl) (by simp) (AllReadyH.cons (o := ⟨some 31, .call ⟨.value (.func 34), #[.tmp 30], #[27]⟩, 27, "outright.go:256", #[⟨2, .data⟩], none⟩) rfl (fun K hK => ?_) AllReadyH.nil)
          go_simp
          refine (list_new Ac cc c v23 n1 (HC.out.keep (HB2.out.trans (HX_v23.out.mono HB2.out.size)) (Nat.le_refl _)) c9 cpos).mono ?_
          rintro e v24 ⟨g1, c1, rfl, hE, hge, hb⟩
          have HX_v24 := Lib.hid (HX_v23.out.trans (hb.mono HX_v23.out.size))
          have E1_v24 := Lib.hid hE
          have bg1 : w2.heap.size ≤ g1 := Nat.le_trans HX_v23.out.size hge
          have EX_v24 := Lib.hid ((hb.block Bx (Array.getElem?_eq_some_iff.1 EX_v23.out).1).trans EX_v23.out)
          have EY_v24 := Lib.hid ((hb.block By (Array.getElem?_eq_some_iff.1 EY_v23.out).1).trans EY_v23.out)
          clear hE hge hb
          go_wp2_with fail
          refine hK.out _ _ ((HS.out _ HX_v24.out)) (fun hS3 => ?_)
          clear hS2 hK K
          refine wpAnyH_ready (rs := [6]) (by kernel_rfl) (by simp) (AllReadyH.cons (o := ⟨some 34, .call ⟨.value (.func 34), #[.tmp 33], #[27]⟩, 27, "outright.go:256", #[⟨5, .data⟩, ⟨3, .chain⟩], none⟩) rfl (fun K hK => ?_) AllReadyH.nil)
          go_simp
          refine (list_new Ak ck k v24 n2 (HK.out.keep (HB2.out.trans (HX_v24.out.mono HB2.out.size)) (Nat.le_refl _)) k9 kpos).mono ?_
          rintro e v25 ⟨g2, c2, rfl, hE, hge, hb⟩
          have HX_v25 := Lib.hid (HX_v24.out.trans (hb.mono HX_v24.out.size))
          have E2_v25 := Lib.hid hE
          have bg2 : w2.heap.size ≤ g2 := Nat.le_trans HX_v24.out.size hge
          have g12 : g1 ≠ g2 := by have := E1_v24.out.lt; omega
          have EX_v25 := Lib.hid ((hb.block Bx (Array.getElem?_eq_some_iff.1 EX_v24.out).1).trans EX_v24.out)
          have EY_v25 := Lib.hid ((hb.block By (Array.getElem?_eq_some_iff.1 EY_v24.out).1).trans EY_v24.out)
          have E1_v25 := Lib.hid (E1_v24.out.keep hb (Nat.le_refl _))
          clear hE hge hb
          go_wp2_with fail
          refine hK.out _ _ ((HS.out _ HX_v25.out)) (fun hS4 => ?_)
          clear hS3 hK K
          refine tkH 7 ⟨some 35, .build 29 #[(0, .tmp 31), (1, .tmp 34)], 29, "outright.go:256", #[⟨3, .data⟩, ⟨6, .data⟩, { on := 10, ground := Ground.gcOnly Departure.lateStores }], none⟩ (v := ?_) hS4 ?_ ?_
          rotate_left
          · intro X ⟨x0, x1, x2, x3, x4, x5, x6⟩; go_simp; try with_reducible rfl
          simp only [Act.put, List.setIfInBounds_toArray, List.set_cons_zero, List.set_cons_succ, Array.toArray_toList]
          refine wpAnyH_ready (rs := [10]) (by kernel_rfl) (by simp) (AllReadyH.cons (o := ⟨none, .store 26 (.tmp 11) (.tmp 28), 0, "outright.go:256", #[⟨8, .data⟩, ⟨0, .data⟩, ⟨6, .chain⟩, ⟨0, .phase⟩, ⟨1, .textOnly .lateStores⟩, ⟨2, .textOnly .lateStores⟩, ⟨3, .textOnly .lateStoresUnsure⟩, ⟨4, .textOnly .lateStores⟩, ⟨5, .textOnly .lateStores⟩, ⟨6, .textOnly .lateStoresUnsure⟩, ⟨7, .textOnly .lateStores⟩, ⟨8, .phase⟩, ⟨9, .phase⟩], none⟩) rfl (fun K hK => ?_) AllReadyH.nil)
          have f0 : v25.frozen? ⟨Bx, 0, none⟩ = false := by simp [World.frozen?, EX_v25.out]
          have f1 : v25.frozen? ⟨Bx, 1, none⟩ = false := by simp [World.frozen?, EX_v25.out]
          have f2 : v25.frozen? ⟨Bx, 2, none⟩ = false := by simp [World.frozen?, EX_v25.out]
          have f3 : v25.frozen? ⟨Bx, 3, none⟩ = false := by simp [World.frozen?, EX_v25.out]
          have f4 : v25.frozen? ⟨Bx, 4, none⟩ = false := by simp [World.frozen?, EX_v25.out]
          have q0 : v25.cell? ⟨Bx, 0, none⟩ = some (.int .i64 0) := by simp [World.cell?, EX_v25.out]
          have q1 : v25.cell? ⟨Bx, 1, none⟩ = some (.int .i64 0) := by simp [World.cell?, EX_v25.out]
          have q2 : v25.cell? ⟨Bx, 2, none⟩ = some (.int .i64 0) := by simp [World.cell?, EX_v25.out]
          have q3 : v25.cell? ⟨Bx, 3, none⟩ = some (.int .i64 0) := by simp [World.cell?, EX_v25.out]
          have q4 : v25.cell? ⟨Bx, 4, none⟩ = some (.slice none 0 0) := by simp [World.cell?, EX_v25.out]
          go_simp
          have e1 := (E1_v25.out.ne EX_v25.out (by decide))
          have e2 := (E2_v25.out.ne EX_v25.out (by decide))
          have e3 := block_ne EY_v25.out EX_v25.out (by decide)
          have hX := set_five' EX_v25.out (.int .i64 s.cap) (.int .i64 s.can) (.int .i64 s.sl) (.int .i64 s.sh) (.slice A s.ns.length cp)
          have h1 := ((((E1_v25.out.other (i := 0) (x := .int .i64 s.cap) e1).other (i := 1) (x := .int .i64 s.can) e1).other (i := 2) (x := .int .i64 s.sl) e1).other (i := 3) (x := .int .i64 s.sh) e1).other (i := 4) (x := .slice A s.ns.length cp) e1
          have h2 := ((((E2_v25.out.other (i := 0) (x := .int .i64 s.cap) e2).other (i := 1) (x := .int .i64 s.can) e2).other (i := 2) (x := .int .i64 s.sl) e2).other (i := 3) (x := .int .i64 s.sh) e2).other (i := 4) (x := .slice A s.ns.length cp) e2
          have hY : (((((v25.setCell ⟨Bx, 0, none⟩ (.int .i64 s.cap)).setCell ⟨Bx, 1, none⟩ (.int .i64 s.can)).setCell ⟨Bx, 2, none⟩ (.int .i64 s.sl)).setCell ⟨Bx, 3, none⟩ (.int .i64 s.sh)).setCell ⟨Bx, 4, none⟩ (.slice A s.ns.length cp)).heap[By]? = some (.cells #[.slice none 0 0, .slice none 0 0] 29 (0, 0)) := ((Below.heap_setCell _ _ _ _ e3).trans ((Below.heap_setCell _ _ _ _ e3).trans ((Below.heap_setCell _ _ _ _ e3).trans ((Below.heap_setCell _ _ _ _ e3).trans (Below.heap_setCell _ _ _ _ e3))))).trans EY_v25.out
          have hb : Below w2.heap.size w2 (((((v25.setCell ⟨Bx, 0, none⟩ (.int .i64 s.cap)).setCell ⟨Bx, 1, none⟩ (.int .i64 s.can)).setCell ⟨Bx, 2, none⟩ (.int .i64 s.sl)).setCell ⟨Bx, 3, none⟩ (.int .i64 s.sh)).setCell ⟨Bx, 4, none⟩ (.slice A s.ns.length cp)) := ((((HX_v25.out.setCell bBx _).setCell bBx _).setCell bBx _).setCell bBx _).setCell bBx _
          generalize (((((v25.setCell ⟨Bx, 0, none⟩ (.int .i64 s.cap)).setCell ⟨Bx, 1, none⟩ (.int .i64 s.can)).setCell ⟨Bx, 2, none⟩ (.int .i64 s.sl)).setCell ⟨Bx, 3, none⟩ (.int .i64 s.sh)).setCell ⟨Bx, 4, none⟩ (.slice A s.ns.length cp)) = u1 at hX h1 h2 hY hb ⊢
          have HX_u1 := Lib.hid hb
          have EX_u1 := Lib.hid hX
          have EY_u1 := Lib.hid hY
          have E1_u1 := Lib.hid h1
          have E2_u1 := Lib.hid h2
          clear hb hX hY h1 h2 e1 e2 e3 f0 f1 f2 f3 f4 q0 q1 q2 q3 q4
          refine hK.out _ _ ((HS.out _ HX_u1.out)) (fun hS5 => ?_)
          clear hS4 hK K
          refine wpAnyH_ready (rs := [11]) (by kernel_rfl) (by simp) (AllReadyH.cons (o := ⟨none, .store 29 (.tmp 12) (.tmp 35), 0, "outright.go:256", #[⟨9, .data⟩, ⟨7, .data⟩, ⟨10, .chain⟩, ⟨0, .phase⟩, ⟨1, .phase⟩, ⟨2, .phase⟩, ⟨3, .phase⟩, ⟨4, .phase⟩, ⟨5, .phase⟩, ⟨6, .phase⟩, ⟨7, .phase⟩, ⟨8, .phase⟩, ⟨9, .phase⟩, ⟨10, .phase⟩], none⟩) rfl (fun K hK => ?_) AllReadyH.nil)
          have f0 : u1.frozen? ⟨By, 0, none⟩ = false := by simp [World.frozen?, EY_u1.out]
          have f1 : u1.frozen? ⟨By, 1, none⟩ = false := by simp [World.frozen?, EY_u1.out]
          have q0 : u1.cell? ⟨By, 0, none⟩ = some (.slice none 0 0) := by simp [World.cell?, EY_u1.out]
          have q1 : u1.cell? ⟨By, 1, none⟩ = some (.slice none 0 0) := by simp [World.cell?, EY_u1.out]
          go_simp
          have e1 := (E1_u1.out.ne EY_u1.out (by decide))
          have e2 := (E2_u1.out.ne EY_u1.out (by decide))
          have e3 := block_ne EX_u1.out EY_u1.out (by decide)
          have hY := set_two EY_u1.out (.slice (some ⟨g1, 0, none⟩) c.length c1) (.slice (some ⟨g2, 0, none⟩) k.length c2)
          have h1 := (E1_u1.out.other (i := 0) (x := .slice (some ⟨g1, 0, none⟩) c.length c1) e1).other (i := 1) (x := .slice (some ⟨g2, 0, none⟩) k.length c2) e1
          have h2 := (E2_u1.out.other (i := 0) (x := .slice (some ⟨g1, 0, none⟩) c.length c1) e2).other (i := 1) (x := .slice (some ⟨g2, 0, none⟩) k.length c2) e2
          have hX : ((u1.setCell ⟨By, 0, none⟩ (.slice (some ⟨g1, 0, none⟩) c.length c1)).setCell ⟨By, 1, none⟩ (.slice (some ⟨g2, 0, none⟩) k.length c2)).heap[Bx]? = some (.cells #[.int .i64 s.cap, .int .i64 s.can, .int .i64 s.sl, .int .i64 s.sh, .slice A s.ns.length cp] 26 (0, 0)) := ((Below.heap_setCell _ _ _ _ e3).trans (Below.heap_setCell _ _ _ _ e3)).trans EX_u1.out
          have hb : Below w2.heap.size w2 ((u1.setCell ⟨By, 0, none⟩ (.slice (some ⟨g1, 0, none⟩) c.length c1)).setCell ⟨By, 1, none⟩ (.slice (some ⟨g2, 0, none⟩) k.length c2)) := (HX_u1.out.setCell bBy _).setCell bBy _
          have HM := Lib.hid (show MadeXY s A cp s.sl s.sh c k w2 Bx By g1 c1 g2 c2 ((u1.setCell ⟨By, 0, none⟩ (.slice (some ⟨g1, 0, none⟩) c.length c1)).setCell ⟨By, 1, none⟩ (.slice (some ⟨g2, 0, none⟩) k.length c2)) from ⟨hX, hY, h1, h2, g12, bBx, bBy, bg1, bg2, hb⟩)
          generalize ((u1.setCell ⟨By, 0, none⟩ (.slice (some ⟨g1, 0, none⟩) c.length c1)).setCell ⟨By, 1, none⟩ (.slice (some ⟨g2, 0, none⟩) k.length c2)) = u2 at HM hb ⊢
          have HU2 := Lib.hid hb
          clear hb hX hY h1 h2 e1 e2 e3 f0 f1 q0 q1
          refine hK.out _ _ ((HS.out _ HU2.out)) (fun hS6 => ?_)
          clear hS5 hK K
          refine wpAnyH_done (by kernel_rfl) ?_ _
          clear hS6
          go_wp2_with fail
          go_meet
          case rel => exact ⟨Bx, By, g1, c1, g2, c2, rfl, rfl, HM.out⟩
      · skip
        go_simp
        have hb : Below v0.heap.size v0 (v0.alloc (.cells #[.slice none 0 0, .slice none 0 0] 29)) := (Below.refl _ _).alloc (Nat.le_refl _) _
        have hE := Go.heap_alloc_new v0 (.cells #[.slice none 0 0, .slice none 0 0] 29)
        have bBy : w2.heap.size ≤ v0.heap.size := HX_v0.out.size
        obtain ⟨By, hBy⟩ : ∃ B, v0.heap.size = B := ⟨_, rfl⟩
        rw [hBy] at hE bBy
        rw [hBy]
        clear hBy
        generalize v0.alloc (.cells #[.slice none 0 0, .slice none 0 0] 29) = v26 at hb hE ⊢
        have HX_v26 := Lib.hid (HX_v0.out.trans (hb.mono HX_v0.out.size))
        have EY_v26 := Lib.hid hE
        clear hE hb
        refine hK.out _ _ ((HS.out _ HX_v26.out)) (fun hS1 => ?_)
        clear hS0 hK K
        refine wpAnyH_ready (rs := [3, 8]) (by kernel_rfl) (by simp) (AllReadyH.cons (o := ⟨some 31, .call ⟨.value (.func 34), #[.tmp 30], #[27]⟩, 27, "outright.go:256", #[⟨2, .data⟩], none⟩) rfl (fun K hK => ?_) (AllReadyH.cons (o := ⟨some 11, .alloc 26, 0, "outright.go:256", #[], none⟩) rfl (fun K hK => ?_) AllReadyH.nil))
        · skip
          go_simp
          refine (list_new Ac cc c v26 n1 (HC.out.keep (HB2.out.trans (HX_v26.out.mono HB2.out.size)) (Nat.le_refl _)) c9 cpos).mono ?_
          rintro e v27 ⟨g1, c1, rfl, hE, hge, hb⟩
          have HX_v27 := Lib.hid (HX_v26.out.trans (hb.mono HX_v26.out.size))
          have E1_v27 := Lib.hid hE
          have bg1 : w2.heap.size ≤ g1 := Nat.le_trans HX_v26.out.size hge
          have EY_v27 := Lib.hid ((hb.block By (Array.getElem?_eq_some_iff.1 EY_v26.out).1).trans EY_v26.out)
          clear hE hge hb
          go_wp2_with fail
          refine hK.out _ _ ((HS.out _ HX_v27.out)) (fun hS2 => ?_)
          clear hS1 hK K
          refine wpAnyH_ready (rs := [6, 8]) (by kernel_rfl) (by simp) (AllReadyH.cons (o := ⟨some 34, .call ⟨.value (.func 34), #[.tmp 33], #[27]⟩, 27, "outright.go:256", #[⟨5, .data⟩, ⟨3, .chain⟩], none⟩) rfl (fun K hK => ?_) (AllReadyH.cons (o := ⟨some 11, .alloc 26, 0, "outright.go:256", #[], none⟩) rfl (fun K hK => ?_) AllReadyH.nil))
          · skip
            go_simp
            refine (list_new Ak ck k v27 n2 (HK.out.keep (HB2.out.trans (HX_v27.out.mono HB2.out.size)) (Nat.le_refl _)) k9 kpos).mono ?_
            rintro e v28 ⟨g2, c2, rfl, hE, hge, hb⟩
            have HX_v28 := Lib.hid (HX_v27.out.trans (hb.mono HX_v27.out.size))
            have E2_v28 := Lib.hid hE
            have bg2 : w2.heap.size ≤ g2 := Nat.le_trans HX_v27.out.size hge
            have g12 : g1 ≠ g2 := by have := E1_v27.out.lt; omega
            have EY_v28 := Lib.hid ((hb.block By (Array.getElem?_eq_some_iff.1 EY_v27.out).1).trans EY_v27.out)
            have E1_v28 := Lib.hid (E1_v27.out.keep hb (Nat.le_refl _))
            clear hE hge hb
            go_wp2_with fail
            refine hK.out _ _ ((HS.out _ HX_v28.out)) (fun hS3 => ?_)
            clear hS2 hK K
            refine tkH 7 ⟨some 35, .build 29 #[(0, .tmp 31), (1, .tmp 34)], 29, "outright.go:256", #[⟨3, .data⟩, ⟨6, .data⟩, { on := 10, ground := Ground.gcOnly Departure.lateStores }], none⟩ (v := ?_) hS3 ?_ ?_
            rotate_left
            · intro X ⟨x0, x1, x2, x3, x4, x5, x6⟩; go_simp; try with_reducible rfl
            simp only [Act.put, List.setIfInBounds_toArray, List.set_cons_zero, List.set_cons_succ, Array.toArray_toList]
            refine wpAnyH_ready (rs := [8]) (by kernel_rfl) (by simp) (AllReadyH.cons (o := ⟨some 11, .alloc 26, 0, "outright.go:256", #[], none⟩) rfl (fun K hK => ?_) AllReadyH.nil)
            go_simp
            have hb : Below v28.heap.size v28 (v28.alloc (.cells #[.int .i64 0, .int .i64 0, .int .i64 0, .int .i64 0, .slice none 0 0] 26)) := (Below.refl _ _).alloc (Nat.le_refl _) _
            have hE := Go.heap_alloc_new v28 (.cells #[.int .i64 0, .int .i64 0, .int .i64 0, .int .i64 0, .slice none 0 0] 26)
            have bBx : w2.heap.size ≤ v28.heap.size := HX_v28.out.size
            obtain ⟨Bx, hBx⟩ : ∃ B, v28.heap.size = B := ⟨_, rfl⟩
            rw [hBx] at hE bBx
            rw [hBx]
            clear hBx
            generalize v28.alloc (.cells #[.int .i64 0, .int .i64 0, .int .i64 0, .int .i64 0, .slice none 0 0] 26) = v29 at hb hE ⊢
            have HX_v29 := Lib.hid (HX_v28.out.trans (hb.mono HX_v28.out.size))
            have EX_v29 := Lib.hid hE
            have EY_v29 := Lib.hid ((hb.block By (Array.getElem?_eq_some_iff.1 EY_v28.out).1).trans EY_v28.out)
            have E1_v29 := Lib.hid (E1_v28.out.keep hb (Nat.le_refl _))
            have E2_v29 := Lib.hid (E2_v28.out.keep hb (Nat.le_refl _))
            clear hE hb
            refine hK.out _ _ ((HS.out _ HX_v29.out)) (fun hS4 => ?_)
            clear hS3 hK K
            refine wpAnyH_ready (rs := [10]) (by kernel_rfl) (by simp) (AllReadyH.cons (o := ⟨none, .store 26 (.tmp 11) (.tmp 28), 0, "outright.go:256", #[⟨8, .data⟩, ⟨0, .data⟩, ⟨6, .chain⟩, ⟨0, .phase⟩, ⟨1, .textOnly .lateStores⟩, ⟨2, .textOnly .lateStores⟩, ⟨3, .textOnly .lateStoresUnsure⟩, ⟨4, .textOnly .lateStores⟩, ⟨5, .textOnly .lateStores⟩, ⟨6, .textOnly .lateStoresUnsure⟩, ⟨7, .textOnly .lateStores⟩, ⟨8, .phase⟩, ⟨9, .phase⟩], none⟩) rfl (fun K hK => ?_) AllReadyH.nil)
            have f0 : v29.frozen? ⟨Bx, 0, none⟩ = false := by simp [World.frozen?, EX_v29.out]
            have f1 : v29.frozen? ⟨Bx, 1, none⟩ = false := by simp [World.frozen?, EX_v29.out]
            have f2 : v29.frozen? ⟨Bx, 2, none⟩ = false := by simp [World.frozen?, EX_v29.out]
            have f3 : v29.frozen? ⟨Bx, 3, none⟩ = false := by simp [World.frozen?, EX_v29.out]
            have f4 : v29.frozen? ⟨Bx, 4, none⟩ = false := by simp [World.frozen?, EX_v29.out]
            have q0 : v29.cell? ⟨Bx, 0, none⟩ = some (.int .i64 0) := by simp [World.cell?, EX_v29.out]
            have q1 : v29.cell? ⟨Bx, 1, none⟩ = some (.int .i64 0) := by simp [World.cell?, EX_v29.out]
            have q2 : v29.cell? ⟨Bx, 2, none⟩ = some (.int .i64 0) := by simp [World.cell?, EX_v29.out]
            have q3 : v29.cell? ⟨Bx, 3, none⟩ = some (.int .i64 0) := by simp [World.cell?, EX_v29.out]
            have q4 : v29.cell? ⟨Bx, 4, none⟩ = some (.slice none 0 0) := by simp [World.cell?, EX_v29.out]
            go_simp
            have e1 := (E1_v29.out.ne EX_v29.out (by decide))
            have e2 := (E2_v29.out.ne EX_v29.out (by decide))
            have e3 := block_ne EY_v29.out EX_v29.out (by decide)
            have hX := set_five' EX_v29.out (.int .i64 s.cap) (.int .i64 s.can) (.int .i64 s.sl) (.int .i64 s.sh) (.slice A s.ns.length cp)
            have h1 := ((((E1_v29.out.other (i := 0) (x := .int .i64 s.cap) e1).other (i := 1) (x := .int .i64 s.can) e1).other (i := 2) (x := .int .i64 s.sl) e1).other (i := 3) (x := .int .i64 s.sh) e1).other (i := 4) (x := .slice A s.ns.length cp) e1
            have h2 := ((((E2_v29.out.other (i := 0) (x := .int .i64 s.cap) e2).other (i := 1) (x := .int .i64 s.can) e2).other (i := 2) (x := .int .i64 s.sl) e2).other (i := 3) (x := .int .i64 s.sh) e2).other (i := 4) (x := .slice A s.ns.length cp) e2
            have hY : (((((v29.setCell ⟨Bx, 0, none⟩ (.int .i64 s.cap)).setCell ⟨Bx, 1, none⟩ (.int .i64 s.can)).setCell ⟨Bx, 2, none⟩ (.int .i64 s.sl)).setCell ⟨Bx, 3, none⟩ (.int .i64 s.sh)).setCell ⟨Bx, 4, none⟩ (.slice A s.ns.length cp)).heap[By]? = some (.cells #[.slice none 0 0, .slice none 0 0] 29 (0, 0)) := ((Below.heap_setCell _ _ _ _ e3).trans ((Below.heap_setCell _ _ _ _ e3).trans ((Below.heap_setCell _ _ _ _ e3).trans ((Below.heap_setCell _ _ _ _ e3).trans (Below.heap_setCell _ _ _ _ e3))))).trans EY_v29.out
            have hb : Below w2.heap.size w2 (((((v29.setCell ⟨Bx, 0, none⟩ (.int .i64 s.cap)).setCell ⟨Bx, 1, none⟩ (.int .i64 s.can)).setCell ⟨Bx, 2, none⟩ (.int .i64 s.sl)).setCell ⟨Bx, 3, none⟩ (.int .i64 s.sh)).setCell ⟨Bx, 4, none⟩ (.slice A s.ns.length cp)) := ((((HX_v29.out.setCell bBx _).setCell bBx _).setCell bBx _).setCell bBx _).setCell bBx _
            generalize (((((v29.setCell ⟨Bx, 0, none⟩ (.int .i64 s.cap)).setCell ⟨Bx, 1, none⟩ (.int .i64 s.can)).setCell ⟨Bx, 2, none⟩ (.int .i64 s.sl)).setCell ⟨Bx, 3, none⟩ (.int .i64 s.sh)).setCell ⟨Bx, 4, none⟩ (.slice A s.ns.length cp)) = u1 at hX h1 h2 hY hb ⊢
            have HX_u1 := Lib.hid hb
            have EX_u1 := Lib.hid hX
            have EY_u1 := Lib.hid hY
            have E1_u1 := Lib.hid h1
            have E2_u1 := Lib.hid h2
            clear hb hX hY h1 h2 e1 e2 e3 f0 f1 f2 f3 f4 q0 q1 q2 q3 q4
            refine hK.out _ _ ((HS.out _ HX_u1.out)) (fun hS5 => ?_)
            clear hS4 hK K
            refine wpAnyH_ready (rs := [11]) (by kernel_rfl) (by simp) (AllReadyH.cons (o := ⟨none, .store 29 (.tmp 12) (.tmp 35), 0, "outright.go:256", #[⟨9, .data⟩, ⟨7, .data⟩, ⟨10, .chain⟩, ⟨0, .phase⟩, ⟨1, .phase⟩, ⟨2, .phase⟩, ⟨3, .phase⟩, ⟨4, .phase⟩, ⟨5, .phase⟩, ⟨6, .phase⟩, ⟨7, .phase⟩, ⟨8, .phase⟩, ⟨9, .phase⟩, ⟨10, .phase⟩], none⟩) rfl (fun K hK => ?_) AllReadyH.nil)
            have f0 : u1.frozen? ⟨By, 0, none⟩ = false := by simp [World.frozen?, EY_u1.out]
            have f1 : u1.frozen? ⟨By, 1, none⟩ = false := by simp [World.frozen?, EY_u1.out]
            have q0 : u1.cell? ⟨By, 0, none⟩ = some (.slice none 0 0) := by simp [World.cell?, EY_u1.out]
            have q1 : u1.cell? ⟨By, 1, none⟩ = some (.slice none 0 0) := by simp [World.cell?, EY_u1.out]
            go_simp
            have e1 := (E1_u1.out.ne EY_u1.out (by decide))
            have e2 := (E2_u1.out.ne EY_u1.out (by decide))
            have e3 := block_ne EX_u1.out EY_u1.out (by decide)
            have hY := set_two EY_u1.out (.slice (some ⟨g1, 0, none⟩) c.length c1) (.slice (some ⟨g2, 0, none⟩) k.length c2)
            have h1 := (E1_u1.out.other (i := 0) (x := .slice (some ⟨g1, 0, none⟩) c.length c1) e1).other (i := 1) (x := .slice (some ⟨g2, 0, none⟩) k.length c2) e1
            have h2 := (E2_u1.out.other (i := 0) (x := .slice (some ⟨g1, 0, none⟩) c.length c1) e2).other (i := 1) (x := .slice (some ⟨g2, 0, none⟩) k.length c2) e2
            have hX : ((u1.setCell ⟨By, 0, none⟩ (.slice (some ⟨g1, 0, none⟩) c.length c1)).setCell ⟨By, 1, none⟩ (.slice (some ⟨g2, 0, none⟩) k.length c2)).heap[Bx]? = some (.cells #[.int .i64 s.cap, .int .i64 s.can, .int .i64 s.sl, .int .i64 s.sh, .slice A s.ns.length cp] 26 (0, 0)) := ((Below.heap_setCell _ _ _ _ e3).trans (Below.heap_setCell _ _ _ _ e3)).trans EX_u1.out
            have hb : Below w2.heap.size w2 ((u1.setCell ⟨By, 0, none⟩ (.slice (some ⟨g1, 0, none⟩) c.length c1)).setCell ⟨By, 1, none⟩ (.slice (some ⟨g2, 0, none⟩) k.length c2)) := (HX_u1.out.setCell bBy _).setCell bBy _
            have HM := Lib.hid (show MadeXY s A cp s.sl s.sh c k w2 Bx By g1 c1 g2 c2 ((u1.setCell ⟨By, 0, none⟩ (.slice (some ⟨g1, 0, none⟩) c.length c1)).setCell ⟨By, 1, none⟩ (.slice (some ⟨g2, 0, none⟩) k.length c2)) from ⟨hX, hY, h1, h2, g12, bBx, bBy, bg1, bg2, hb⟩)
            generalize ((u1.setCell ⟨By, 0, none⟩ (.slice (some ⟨g1, 0, none⟩) c.length c1)).setCell ⟨By, 1, none⟩ (.slice (some ⟨g2, 0, none⟩) k.length c2)) = u2 at HM hb ⊢
            have HU2 := Lib.hid hb
            clear hb hX hY h1 h2 e1 e2 e3 f0 f1 q0 q1
            refine hK.out _ _ ((HS.out _ HU2.out)) (fun hS6 => ?_)
            clear hS5 hK K
            refine wpAnyH_done (by kernel_rfl) ?_ _
            clear hS6
            go_wp2_with fail
            go_meet
            case rel => exact ⟨Bx, By, g1, c1, g2, c2, rfl, rfl, HM.out⟩
          · skip
            go_simp
            have hb : Below v27.heap.size v27 (v27.alloc (.cells #[.int .i64 0, .int .i64 0, .int .i64 0, .int .i64 0, .slice none 0 0] 26)) := (Below.refl _ _).alloc (Nat.le_refl _) _
            have hE := Go.heap_alloc_new v27 (.cells #[.int .i64 0, .int .i64 0, .int .i64 0, .int .i64 0, .slice none 0 0] 26)
            have bBx : w2.heap.size ≤ v27.heap.size := HX_v27.out.size
            obtain ⟨Bx, hBx⟩ : ∃ B, v27.heap.size = B := ⟨_, rfl⟩
            rw [hBx] at hE bBx
            rw [hBx]
            clear hBx
            generalize v27.alloc (.cells #[.int .i64 0, .int .i64 0, .int .i64 0, .int .i64 0, .slice none 0 0] 26) = v30 at hb hE ⊢
            have HX_v30 := Lib.hid (HX_v27.out.trans (hb.mono HX_v27.out.size))
            have EX_v30 := Lib.hid hE
            have EY_v30 := Lib.hid ((hb.block By (Array.getElem?_eq_some_iff.1 EY_v27.out).1).trans EY_v27.out)
            have E1_v30 := Lib.hid (E1_v27.out.keep hb (Nat.le_refl _))
            clear hE hb
            refine hK.out _ _ ((HS.out _ HX_v30.out)) (fun hS3 => ?_)
            clear hS2 hK K
            refine wpAnyH_ready (rs := [6]) (by kernel_rfl) (by simp) (AllReadyH.cons (o := ⟨some 34, .call ⟨.value (.func 34), #[.tmp 33], #[27]⟩, 27, "outright.go:256", #[⟨5, .data⟩, ⟨3, .chain⟩], none⟩) rfl (fun K hK => ?_) AllReadyH.nil)
            go_simp
            refine (list_new Ak ck k v30 n2 (HK.out.keep (HB2.out.trans (HX_v30.out.mono HB2.out.size)) (Nat.le_refl _)) k9 kpos).mono ?_
            rintro e v31 ⟨g2, c2, rfl, hE, hge, hb⟩
            have HX_v31 := Lib.hid (HX_v30.out.trans (hb.mono HX_v30.out.size))
            have E2_v31 := Lib.hid hE
            have bg2 : w2.heap.size ≤ g2 := Nat.le_trans HX_v30.out.size hge
            have g12 : g1 ≠ g2 := by have := E1_v30.out.lt; omega
            have EY_v31 := Lib.hid ((hb.block By (Array.getElem?_eq_some_iff.1 EY_v30.out).1).trans EY_v30.out)
            have E1_v31 := Lib.hid (E1_v30.out.keep hb (Nat.le_refl _))
            have EX_v31 := Lib.hid ((hb.block Bx (Array.getElem?_eq_some_iff.1 EX_v30.out).1).trans EX_v30.out)
            clear hE hge hb
            go_wp2_with fail
            refine hK.out _ _ ((HS.out _ HX_v31.out)) (fun hS4 => ?_)
            clear hS3 hK K
            refine tkH 7 ⟨some 35, .build 29 #[(0, .tmp 31), (1, .tmp 34)], 29, "outright.go:256", #[⟨3, .data⟩, ⟨6, .data⟩, { on := 10, ground := Ground.gcOnly Departure.lateStores }], none⟩ (v := ?_) hS4 ?_ ?_
            rotate_left
            · intro X ⟨x0, x1, x2, x3, x4, x5, x6⟩; go_simp; try with_reducible rfl
            simp only [Act.put, List.setIfInBounds_toArray, List.set_cons_zero, List.set_cons_succ, Array.toArray_toList]
            refine wpAnyH_ready (rs := [10]) (by kernel_rfl) (by simp) (AllReadyH.cons (o := ⟨none, .store 26 (.tmp 11) (.tmp 28), 0, "outright.go:256", #[⟨8, .data⟩, ⟨0, .data⟩, ⟨6, .chain⟩, ⟨0, .phase⟩, ⟨1, .textOnly .lateStores⟩, ⟨2, .textOnly .lateStores⟩, ⟨3, .textOnly .lateStoresUnsure⟩, ⟨4, .textOnly .lateStores⟩, ⟨5, .textOnly .lateStores⟩, ⟨6, .textOnly .lateStoresUnsure⟩, ⟨7, .textOnly .lateStores⟩, ⟨8, .phase⟩, ⟨9, .phase⟩], none⟩) rfl (fun K hK => ?_) AllReadyH.nil)
            have f0 : v31.frozen? ⟨Bx, 0, none⟩ = false := by simp [World.frozen?, EX_v31.out]
            have f1 : v31.frozen? ⟨Bx, 1, none⟩ = false := by simp [World.frozen?, EX_v31.out]
            have f2 : v31.frozen? ⟨Bx, 2, none⟩ = false := by simp [World.frozen?, EX_v31.out]
            have f3 : v31.frozen? ⟨Bx, 3, none⟩ = false := by simp [World.frozen?, EX_v31.out]
            have f4 : v31.frozen? ⟨Bx, 4, none⟩ = false := by simp [World.frozen?, EX_v31.out]
            have q0 : v31.cell? ⟨Bx, 0, none⟩ = some (.int .i64 0) := by simp [World.cell?, EX_v31.out]
            have q1 : v31.cell? ⟨Bx, 1, none⟩ = some (.int .i64 0) := by simp [World.cell?, EX_v31.out]
            have q2 : v31.cell? ⟨Bx, 2, none⟩ = some (.int .i64 0) := by simp [World.cell?, EX_v31.out]
            have q3 : v31.cell? ⟨Bx, 3, none⟩ = some (.int .i64 0) := by simp [World.cell?, EX_v31.out]
            have q4 : v31.cell? ⟨Bx, 4, none⟩ = some (.slice none 0 0) := by simp [World.cell?, EX_v31.out]
            go_simp
            have e1 := (E1_v31.out.ne EX_v31.out (by decide))
            have e2 := (E2_v31.out.ne EX_v31.out (by decide))
            have e3 := block_ne EY_v31.out EX_v31.out (by decide)
            have hX := set_five' EX_v31.out (.int .i64 s.cap) (.int .i64 s.can) (.int .i64 s.sl) (.int .i64 s.sh) (.slice A s.ns.length cp)
            have h1 := ((((E1_v31.out.other (i := 0) (x := .int .i64 s.cap) e1).other (i := 1) (x := .int .i64 s.can) e1).other (i := 2) (x := .int .i64 s.sl) e1).other (i := 3) (x := .int .i64 s.sh) e1).other (i := 4) (x := .slice A s.ns.length cp) e1
            have h2 := ((((E2_v31.out.other (i := 0) (x := .int .i64 s.cap) e2).other (i := 1) (x := .int .i64 s.can) e2).other (i := 2) (x := .int .i64 s.sl) e2).other (i := 3) (x := .int .i64 s.sh) e2).other (i := 4) (x := .slice A s.ns.length cp) e2
            have hY : (((((v31.setCell ⟨Bx, 0, none⟩ (.int .i64 s.cap)).setCell ⟨Bx, 1, none⟩ (.int .i64 s.can)).setCell ⟨Bx, 2, none⟩ (.int .i64 s.sl)).setCell ⟨Bx, 3, none⟩ (.int .i64 s.sh)).setCell ⟨Bx, 4, none⟩ (.slice A s.ns.length cp)).heap[By]? = some (.cells #[.slice none 0 0, .slice none 0 0] 29 (0, 0)) := ((Below.heap_setCell _ _ _ _ e3).trans ((Below.heap_setCell _ _ _ _ e3).trans ((Below.heap_setCell _ _ _ _ e3).trans ((Below.heap_setCell _ _ _ _ e3).trans (Below.heap_setCell _ _ _ _ e3))))).trans EY_v31.out
            have hb : Below w2.heap.size w2 (((((v31.setCell ⟨Bx, 0, none⟩ (.int .i64 s.cap)).setCell ⟨Bx, 1, none⟩ (.int .i64 s.can)).setCell ⟨Bx, 2, none⟩ (.int .i64 s.sl)).setCell ⟨Bx, 3, none⟩ (.int .i64 s.sh)).setCell ⟨Bx, 4, none⟩ (.slice A s.ns.length cp)) := ((((HX_v31.out.setCell bBx _).setCell bBx _).setCell bBx _).setCell bBx _).setCell bBx _
            generalize (((((v31.setCell ⟨Bx, 0, none⟩ (.int .i64 s.cap)).setCell ⟨Bx, 1, none⟩ (.int .i64 s.can)).setCell ⟨Bx, 2, none⟩ (.int .i64 s.sl)).setCell ⟨Bx, 3, none⟩ (.int .i64 s.sh)).setCell ⟨Bx, 4, none⟩ (.slice A s.ns.length cp)) = u1 at hX h1 h2 hY hb ⊢
            have HX_u1 := Lib.hid hb
            have EX_u1 := Lib.hid hX
            have EY_u1 := Lib.hid hY
            have E1_u1 := Lib.hid h1
            have E2_u1 := Lib.hid h2
            clear hb hX hY h1 h2 e1 e2 e3 f0 f1 f2 f3 f4 q0 q1 q2 q3 q4
            refine hK.out _ _ ((HS.out _ HX_u1.out)) (fun hS5 => ?_)
            clear hS4 hK K
            refine wpAnyH_ready (rs := [11]) (by kernel_rfl) (by simp) (AllReadyH.cons (o := ⟨none, .store 29 (.tmp 12) (.tmp 35), 0, "outright.go:256", #[⟨9, .data⟩, ⟨7, .data⟩, ⟨10, .chain⟩, ⟨0, .phase⟩, ⟨1, .phase⟩, ⟨2, .phase⟩, ⟨3, .phase⟩, ⟨4, .phase⟩, ⟨5, .phase⟩, ⟨6, .phase⟩, ⟨7, .phase⟩, ⟨8, .phase⟩, ⟨9, .phase⟩, ⟨10, .phase⟩], none⟩) rfl (fun K hK => ?_) AllReadyH.nil)
            have f0 : u1.frozen? ⟨By, 0, none⟩ = false := by simp [World.frozen?, EY_u1.out]
            have f1 : u1.frozen? ⟨By, 1, none⟩ = false := by simp [World.frozen?, EY_u1.out]
            have q0 : u1.cell? ⟨By, 0, none⟩ = some (.slice none 0 0) := by simp [World.cell?, EY_u1.out]
            have q1 : u1.cell? ⟨By, 1, none⟩ = some (.slice none 0 0) := by simp [World.cell?, EY_u1.out]
            go_simp
            have e1 := (E1_u1.out.ne EY_u1.out (by decide))
            have e2 := (E2_u1.out.ne EY_u1.out (by decide))
            have e3 := block_ne EX_u1.out EY_u1.out (by decide)
            have hY := set_two EY_u1.out (.slice (some ⟨g1, 0, none⟩) c.length c1) (.slice (some ⟨g2, 0, none⟩) k.length c2)
            have h1 := (E1_u1.out.other (i := 0) (x := .slice (some ⟨g1, 0, none⟩) c.length c1) e1).other (i := 1) (x := .slice (some ⟨g2, 0, none⟩) k.length c2) e1
            have h2 := (E2_u1.out.other (i := 0) (x := .slice (some ⟨g1, 0, none⟩) c.length c1) e2).other (i := 1) (x := .slice (some ⟨g2, 0, none⟩) k.length c2) e2
            have hX : ((u1.setCell ⟨By, 0, none⟩ (.slice (some ⟨g1, 0, none⟩) c.length c1)).setCell ⟨By, 1, none⟩ (.slice (some ⟨g2, 0, none⟩) k.length c2)).heap[Bx]? = some (.cells #[.int .i64 s.cap, .int .i64 s.can, .int .i64 s.sl, .int .i64 s.sh, .slice A s.ns.length cp] 26 (0, 0)) := ((Below.heap_setCell _ _ _ _ e3).trans (Below.heap_setCell _ _ _ _ e3)).trans EX_u1.out
            have hb : Below w2.heap.size w2 ((u1.setCell ⟨By, 0, none⟩ (.slice (some ⟨g1, 0, none⟩) c.length c1)).setCell ⟨By, 1, none⟩ (.slice (some ⟨g2, 0, none⟩) k.length c2)) := (HX_u1.out.setCell bBy _).setCell bBy _
            have HM := Lib.hid (show MadeXY s A cp s.sl s.sh c k w2 Bx By g1 c1 g2 c2 ((u1.setCell ⟨By, 0, none⟩ (.slice (some ⟨g1, 0, none⟩) c.length c1)).setCell ⟨By, 1, none⟩ (.slice (some ⟨g2, 0, none⟩) k.length c2)) from ⟨hX, hY, h1, h2, g12, bBx, bBy, bg1, bg2, hb⟩)
            generalize ((u1.setCell ⟨By, 0, none⟩ (.slice (some ⟨g1, 0, none⟩) c.length c1)).setCell ⟨By, 1, none⟩ (.slice (some ⟨g2, 0, none⟩) k.length c2)) = u2 at HM hb ⊢
            have HU2 := Lib.hid hb
            clear hb hX hY h1 h2 e1 e2 e3 f0 f1 q0 q1
            refine hK.out _ _ ((HS.out _ HU2.out)) (fun hS6 => ?_)
            clear hS5 hK K
            refine wpAnyH_done (by kernel_rfl) ?_ _
            clear hS6
            go_wp2_with fail
            go_meet
            case rel => exact ⟨Bx, By, g1, c1, g2, c2, rfl, rfl, HM.out⟩
        · skip
          go_simp
          have hb : Below v26.heap.size v26 (v26.alloc (.cells #[.int .i64 0, .int .i64 0, .int .i64 0, .int .i64 0, .slice none 0 0] 26)) := (Below.refl _ _).alloc (Nat.le_refl _) _
          have hE := Go.heap_alloc_new v26 (.cells #[.int .i64 0, .int .i64 0, .int .i64 0, .int .i64 0, .slice none 0 0] 26)
          have bBx : w2.heap.size ≤ v26.heap.size := HX_v26.out.size
          obtain ⟨Bx, hBx⟩ : ∃ B, v26.heap.size = B := ⟨_, rfl⟩
          rw [hBx] at hE bBx
          rw [hBx]
          clear hBx
          generalize v26.alloc (.cells #[.int .i64 0, .int .i64 0, .int .i64 0, .int .i64 0, .slice none 0 0] 26) = v32 at hb hE ⊢
          have HX_v32 := Lib.hid (HX_v26.out.trans (hb.mono HX_v26.out.size))
          have EX_v32 := Lib.hid hE
          have EY_v32 := Lib.hid ((hb.block By (Array.getElem?_eq_some_iff.1 EY_v26.out).1).trans EY_v26.out)
          clear hE hb
          refine hK.out _ _ ((HS.out _ HX_v32.out)) (fun hS2 => ?_)
          clear hS1 hK K
          refine wpAnyH_ready (rs := [3]) (by kernel_rfl) (by simp) (AllReadyH.cons (o := ⟨some 31, .call ⟨.value (.func 34), #[.tmp 30], #[27]⟩, 27, "outright.go:256", #[⟨2, .data⟩], none⟩) rfl (fun K hK => ?_) AllReadyH.nil)
          go_simp
          refine (list_new Ac cc c v32 n1 (HC.out.keep (HB2.out.trans (HX_v32.out.mono HB2.out.size)) (Nat.le_refl _)) c9 cpos).mono ?_
          rintro e v33 ⟨g1, c1, rfl, hE, hge, hb⟩
          have HX_v33 := Lib.hid (HX_v32.out.trans (hb.mono HX_v32.out.size))
          have E1_v33 := Lib.hid hE
          have bg1 : w2.heap.size ≤ g1 := Nat.le_trans HX_v32.out.size hge
          have EY_v33 := Lib.hid ((hb.block By (Array.getElem?_eq_some_iff.1 EY_v32.out).1).trans EY_v32.out)
          have EX_v33 := Lib.hid ((hb.block Bx (Array.getElem?_eq_some_iff.1 EX_v32.out).1).trans EX_v32.out)
          clear hE hge hb
          go_wp2_with fail
          refine hK.out _ _ ((HS.out _ HX_v33.out)) (fun hS3 => ?_)
          clear hS2 hK K
          refine wpAnyH_ready (rs := [6]) (by kernel_rfl) (by simp) (AllReadyH.cons (o := ⟨some 34, .call ⟨.value (.func 34), #[.tmp 33], #[27]⟩, 27, "outright.go:256", #[⟨5, .data⟩, ⟨3, .chain⟩], none⟩) rfl (fun K hK => ?_) AllReadyH.nil)
          go_simp
          refine (list_new Ak ck k v33 n2 (HK.out.keep (HB2.out.trans (HX_v33.out.mono HB2.out.size)) (Nat.le_refl _)) k9 kpos).mono ?_
          rintro e v34 ⟨g2, c2, rfl, hE, hge, hb⟩
          have HX_v34 := Lib.hid (HX_v33.out.trans (hb.mono HX_v33.out.size))
          have E2_v34 := Lib.hid hE
          have bg2 : w2.heap.size ≤ g2 := Nat.le_trans HX_v33.out.size hge
          have g12 : g1 ≠ g2 := by have := E1_v33.out.lt; omega
          have EY_v34 := Lib.hid ((hb.block By (Array.getElem?_eq_some_iff.1 EY_v33.out).1).trans EY_v33.out)
          have EX_v34 := Lib.hid ((hb.block Bx (Array.getElem?_eq_some_iff.1 EX_v33.out).1).trans EX_v33.out)
          have E1_v34 := Lib.hid (E1_v33.out.keep hb (Nat.le_refl _))
          clear hE hge hb
          go_wp2_with fail
          refine hK.out _ _ ((HS.out _ HX_v34.out)) (fun hS4 => ?_)
          clear hS3 hK K
          refine tkH 7 ⟨some 35, .build 29 #[(0, .tmp 31), (1, .tmp 34)], 29, "outright.go:256", #[⟨3, .data⟩, ⟨6, .data⟩, { on := 10, ground := Ground.gcOnly Departure.lateStores }], none⟩ (v := ?_) hS4 ?_ ?_
          rotate_left
          · intro X ⟨x0, x1, x2, x3, x4, x5, x6⟩; go_simp; try with_reducible rfl
          simp only [Act.put, List.setIfInBounds_toArray, List.set_cons_zero, List.set_cons_succ, Array.toArray_toList]
          refine wpAnyH_ready (rs := [10]) (by kernel_rfl) (by simp) (AllReadyH.cons (o := ⟨none, .store 26 (.tmp 11) (.tmp 28), 0, "outright.go:256", #[⟨8, .data⟩, ⟨0, .data⟩, ⟨6, .chain⟩, ⟨0, .phase⟩, ⟨1, .textOnly .lateStores⟩, ⟨2, .textOnly .lateStores⟩, ⟨3, .textOnly .lateStoresUnsure⟩, ⟨4, .textOnly .lateStores⟩, ⟨5, .textOnly .lateStores⟩, ⟨6, .textOnly .lateStoresUnsure⟩, ⟨7, .textOnly .lateStores⟩, ⟨8, .phase⟩, ⟨9, .phase⟩], none⟩) rfl (fun K hK => ?_) AllReadyH.nil)
          have f0 : v34.frozen? ⟨Bx, 0, none⟩ = false := by simp [World.frozen?, EX_v34.out]
          have f1 : v34.frozen? ⟨Bx, 1, none⟩ = false := by simp [World.frozen?, EX_v34.out]
          have f2 : v34.frozen? ⟨Bx, 2, none⟩ = false := by simp [World.frozen?, EX_v34.out]
          have f3 : v34.frozen? ⟨Bx, 3, none⟩ = false := by simp [World.frozen?, EX_v34.out]
          have f4 : v34.frozen? ⟨Bx, 4, none⟩ = false := by simp [World.frozen?, EX_v34.out]
          have q0 : v34.cell? ⟨Bx, 0, none⟩ = some (.int .i64 0) := by simp [World.cell?, EX_v34.out]
          have q1 : v34.cell? ⟨Bx, 1, none⟩ = some (.int .i64 0) := by simp [World.cell?, EX_v34.out]
          have q2 : v34.cell? ⟨Bx, 2, none⟩ = some (.int .i64 0) := by simp [World.cell?, EX_v34.out]
          have q3 : v34.cell? ⟨Bx, 3, none⟩ = some (.int .i64 0) := by simp [World.cell?, EX_v34.out]
          have q4 : v34.cell? ⟨Bx, 4, none⟩ = some (.slice none 0 0) := by simp [World.cell?, EX_v34.out]
          go_simp
          have e1 := (E1_v34.out.ne EX_v34.out (by decide))
          have e2 := (E2_v34.out.ne EX_v34.out (by decide))
          have e3 := block_ne EY_v34.out EX_v34.out (by decide)
          have hX := set_five' EX_v34.out (.int .i64 s.cap) (.int .i64 s.can) (.int .i64 s.sl) (.int .i64 s.sh) (.slice A s.ns.length cp)
          have h1 := ((((E1_v34.out.other (i := 0) (x := .int .i64 s.cap) e1).other (i := 1) (x := .int .i64 s.can) e1).other (i := 2) (x := .int .i64 s.sl) e1).other (i := 3) (x := .int .i64 s.sh) e1).other (i := 4) (x := .slice A s.ns.length cp) e1
          have h2 := ((((E2_v34.out.other (i := 0) (x := .int .i64 s.cap) e2).other (i := 1) (x := .int .i64 s.can) e2).other (i := 2) (x := .int .i64 s.sl) e2).other (i := 3) (x := .int .i64 s.sh) e2).other (i := 4) (x := .slice A s.ns.length cp) e2
          have hY : (((((v34.setCell ⟨Bx, 0, none⟩ (.int .i64 s.cap)).setCell ⟨Bx, 1, none⟩ (.int .i64 s.can)).setCell ⟨Bx, 2, none⟩ (.int .i64 s.sl)).setCell ⟨Bx, 3, none⟩ (.int .i64 s.sh)).setCell ⟨Bx, 4, none⟩ (.slice A s.ns.length cp)).heap[By]? = some (.cells #[.slice none 0 0, .slice none 0 0] 29 (0, 0)) := ((Below.heap_setCell _ _ _ _ e3).trans ((Below.heap_setCell _ _ _ _ e3).trans ((Below.heap_setCell _ _ _ _ e3).trans ((Below.heap_setCell _ _ _ _ e3).trans (Below.heap_setCell _ _ _ _ e3))))).trans EY_v34.out
          have hb : Below w2.heap.size w2 (((((v34.setCell ⟨Bx, 0, none⟩ (.int .i64 s.cap)).setCell ⟨Bx, 1, none⟩ (.int .i64 s.can)).setCell ⟨Bx, 2, none⟩ (.int .i64 s.sl)).setCell ⟨Bx, 3, none⟩ (.int .i64 s.sh)).setCell ⟨Bx, 4, none⟩ (.slice A s.ns.length cp)) := ((((HX_v34.out.setCell bBx _).setCell bBx _).setCell bBx _).setCell bBx _).setCell bBx _
          generalize (((((v34.setCell ⟨Bx, 0, none⟩ (.int .i64 s.cap)).setCell ⟨Bx, 1, none⟩ (.int .i64 s.can)).setCell ⟨Bx, 2, none⟩ (.int .i64 s.sl)).setCell ⟨Bx, 3, none⟩ (.int .i64 s.sh)).setCell ⟨Bx, 4, none⟩ (.slice A s.ns.length cp)) = u1 at hX h1 h2 hY hb ⊢
          have HX_u1 := Lib.hid hb
          have EX_u1 := Lib.hid hX
          have EY_u1 := Lib.hid hY
          have E1_u1 := Lib.hid h1
          have E2_u1 := Lib.hid h2
          clear hb hX hY h1 h2 e1 e2 e3 f0 f1 f2 f3 f4 q0 q1 q2 q3 q4
          refine hK.out _ _ ((HS.out _ HX_u1.out)) (fun hS5 => ?_)
          clear hS4 hK K
          refine wpAnyH_ready (rs := [11]) (by kernel_rfl) (by simp) (AllReadyH.cons (o := ⟨none, .store 29 (.tmp 12) (.tmp 35), 0, "outright.go:256", #[⟨9, .data⟩, ⟨7, .data⟩, ⟨10, .chain⟩, ⟨0, .phase⟩, ⟨1, .phase⟩, ⟨2, .phase⟩, ⟨3, .phase⟩, ⟨4, .phase⟩, ⟨5, .phase⟩, ⟨6, .phase⟩, ⟨7, .phase⟩, ⟨8, .phase⟩, ⟨9, .phase⟩, ⟨10, .phase⟩], none⟩) rfl (fun K hK => ?_) AllReadyH.nil)
          have f0 : u1.frozen? ⟨By, 0, none⟩ = false := by simp [World.frozen?, EY_u1.out]
          have f1 : u1.frozen? ⟨By, 1, none⟩ = false := by simp [World.frozen?, EY_u1.out]
          have q0 : u1.cell? ⟨By, 0, none⟩ = some (.slice none 0 0) := by simp [World.cell?, EY_u1.out]
          have q1 : u1.cell? ⟨By, 1, none⟩ = some (.slice none 0 0) := by simp [World.cell?, EY_u1.out]
          go_simp
          have e1 := (E1_u1.out.ne EY_u1.out (by decide))
          have e2 := (E2_u1.out.ne EY_u1.out (by decide))
          have e3 := block_ne EX_u1.out EY_u1.out (by decide)
          have hY := set_two EY_u1.out (.slice (some ⟨g1, 0, none⟩) c.length c1) (.slice (some ⟨g2, 0, none⟩) k.length c2)
          have h1 := (E1_u1.out.other (i := 0) (x := .slice (some ⟨g1, 0, none⟩) c.length c1) e1).other (i := 1) (x := .slice (some ⟨g2, 0, none⟩) k.length c2) e1
          have h2 := (E2_u1.out.other (i := 0) (x := .slice (some ⟨g1, 0, none⟩) c.length c1) e2).other (i := 1) (x := .slice (some ⟨g2, 0, none⟩) k.length c2) e2
          have hX : ((u1.setCell ⟨By, 0, none⟩ (.slice (some ⟨g1, 0, none⟩) c.length c1)).setCell ⟨By, 1, none⟩ (.slice (some ⟨g2, 0, none⟩) k.length c2)).heap[Bx]? = some (.cells #[.int .i64 s.cap, .int .i64 s.can, .int .i64 s.sl, .int .i64 s.sh, .slice A s.ns.length cp] 26 (0, 0)) := ((Below.heap_setCell _ _ _ _ e3).trans (Below.heap_setCell _ _ _ _ e3)).trans EX_u1.out
          have hb : Below w2.heap.size w2 ((u1.setCell ⟨By, 0, none⟩ (.slice (some ⟨g1, 0, none⟩) c.length c1)).setCell ⟨By, 1, none⟩ (.slice (some ⟨g2, 0, none⟩) k.length c2)) := (HX_u1.out.setCell bBy _).setCell bBy _
          have HM := Lib.hid (show MadeXY s A cp s.sl s.sh c k w2 Bx By g1 c1 g2 c2 ((u1.setCell ⟨By, 0, none⟩ (.slice (some ⟨g1, 0, none⟩) c.length c1)).setCell ⟨By, 1, none⟩ (.slice (some ⟨g2, 0, none⟩) k.length c2)) from ⟨hX, hY, h1, h2, g12, bBx, bBy, bg1, bg2, hb⟩)
          generalize ((u1.setCell ⟨By, 0, none⟩ (.slice (some ⟨g1, 0, none⟩) c.length c1)).setCell ⟨By, 1, none⟩ (.slice (some ⟨g2, 0, none⟩) k.length c2)) = u2 at HM hb ⊢
          have HU2 := Lib.hid hb
          clear hb hX hY h1 h2 e1 e2 e3 f0 f1 q0 q1
          refine hK.out _ _ ((HS.out _ HU2.out)) (fun hS6 => ?_)
          clear hS5 hK K
          refine wpAnyH_done (by kernel_rfl) ?_ _
          clear hS6
          go_wp2_with fail
          go_meet
          case rel => exact ⟨Bx, By, g1, c1, g2, c2, rfl, rfl, HM.out⟩
    case rest =>
      generalize wc = w3 at hcut ⊢
      obtain ⟨Bx, By, g1, c1, g2, c2, rfl, rfl, hM⟩ := hcut
      have hb := hM.2.2.2.2.2.2.2.2.2
      have HB3 := Lib.hid ((HB2.out).trans (hb.mono (HB2.out).size))
      have NBs3 := Lib.hid ((hb.block Bs (Array.getElem?_eq_some_iff.1 NBs2.out).1).trans NBs2.out)
      have NBp3 := Lib.hid ((hb.block Bp (Array.getElem?_eq_some_iff.1 NBp2.out).1).trans NBp2.out)
      have FX3 := Lib.hid hM
      clear hM hb 
      obtain ⟨cBs0_3, cBs1_3, cBs2_3, cBs3_3, cBs4_3⟩ := cells5 NBs3.out
      obtain ⟨cBp0_3, cBp1_3⟩ := cells2 NBp3.out
      have em : which.tmod (s.ns.length : Int) = which % (s.ns.length : Int) := Int.tmod_eq_emod_of_nonneg hwi
      have m0 := Int.emod_nonneg which (show (s.ns.length : Int) ≠ 0 by omega)
      have m1 := Int.emod_lt_of_pos which (show 0 < (s.ns.length : Int) by omega)
      obtain ⟨i, hi⟩ : ∃ i : Nat, which % (s.ns.length : Int) = i := ⟨(which % (s.ns.length : Int)).toNat, by omega⟩
      rw [hi] at em m0 m1
      have i0 : (0 : Int) ≤ (i : Int) := by omega
      have i1 : (i : Int) < (s.ns.length : Int) := by omega
      have hin : i < s.ns.length := by omega
      have p1 : 1 ≤ (s.ns.length : Int) := by omega
      have er : what.tmod 3 = what % 3 := Int.tmod_eq_emod_of_nonneg hwa
      obtain ⟨R, hR⟩ : ∃ R, what % 3 = R := ⟨_, rfl⟩
      have hR3 : R = 0 ∨ R = 1 ∨ R = 2 := by omega
      rw [hR] at er
      have HR := Lib.hid hR
      have HR3 := Lib.hid hR3
      clear hi hR hR3 m0 m1
      go_upto_block 0 with fail
      go_cut [] from 42 to 98 (MSw s A cp c k what w2 Bx By)
      case first =>
        obtain ⟨⟨x0, x1, x2, x3, x4⟩, y0, y1⟩ := FX3.out.cells
        have zX := FX3.out.soft
        have g12 := FX3.out.2.2.2.2.1
        rcases HR3.out with rfl | rfl | rfl
        · have hm := mfin_sh (what := what) H0.out hby HR.out
          have hq := HOK.out.s0
          have hq1 := HOK.out.s1
          have hq2 := HOK.out.s2
          have hq3 := HOK.out.c1
          have wr1 : IntKind.i64.wrap (s.sh + by_) = s.sh + by_ := IntWalk.i64_in _ (by omega)
          have wr2 : IntKind.i64.wrap (s.sl + by_) = s.sl + by_ := IntWalk.i64_in _ (by omega)
          clear hq hq1 hq2 hq3
          go_upto_region 8 with fail
          go_upto_region 9 with fail
          rw [min_if]
          obtain ⟨h', hh⟩ : ∃ x, min s.cap (s.sh + by_) = x := ⟨_, rfl⟩
          rw [hh] at hm ⊢
          have HM := Lib.hid hm
          have hx4 := FX3.out.shl h'
          generalize w3.setCell ⟨Bx, 3, none⟩ (.int .i64 h') = v4 at hx4 ⊢
          have HX4 := Lib.hid hx4
          have hb4 := hx4.below
          clear x0 x1 x2 x3 x4 y0 y1 zX hm hh wr1 hx4
          clear cBs0_3 cBs1_3 cBs2_3 cBs3_3 cBs4_3
          obtain ⟨x0, x1, x2, x3, x4⟩ := HX4.out.cells.1
          obtain ⟨z0, z1, z2, z3, z4⟩ := cells5 ((hb4.block Bs (Array.getElem?_eq_some_iff.1 NBs2.out).1).trans NBs2.out)
          have zX := HX4.out.soft
          clear hb4
          have hm := HM.out
          go_wp2_with fail
          · go_meet
            case rel => exact ⟨s.sl + by_, h', c, k, g1, c1, g2, c2, by rwa [show min h' (s.sl + by_) = s.sl + by_ from by omega] at hm, HX4.out.sll _⟩
          · go_meet
            case rel => exact ⟨h', h', c, k, g1, c1, g2, c2, by rwa [show min h' (s.sl + by_) = h' from by omega] at hm, HX4.out.sll _⟩
        · have HM := Lib.hid (mfin_can (what := what) H0.out HR.out hin)
          obtain ⟨d0, d1⟩ := FX3.out.2.2.1.cell (i := i) (by have := HLC.out; omega)
          have hcb := HPL.out.c i hin
          obtain ⟨C, hC⟩ : ∃ C, atL c i = C := ⟨_, rfl⟩
          rw [hC] at d0 HM hcb
          have wr1 : IntKind.i64.wrap (C + 1) = C + 1 := IntWalk.i64_in _ (by omega)
          have i1 : (i : Int) < (c.length : Int) := by have := HLC.out; omega
          clear hC hcb
          go_upto_region 11 with fail
          go_region
          rw [min_if]
          obtain ⟨V, hV⟩ : ∃ V, min 2 (C + 1) = V := ⟨_, rfl⟩
          rw [hV] at HM ⊢
          have hx4 := Lib.hid ((FX3.out.can i V).drew)
          generalize (w3.setCell ⟨g1, i, none⟩ (.int .i64 V)).drew = v4 at hx4 ⊢
          clear hV
          go_wp2_with fail
          go_meet
          case rel => exact ⟨s.sl, s.sh, _, k, g1, c1, g2, c2, HM.out, hx4.out⟩
        · have HM := Lib.hid (mfin_wick (what := what) H0.out HR.out hin)
          obtain ⟨d0, d1⟩ := FX3.out.2.2.2.1.cell (i := i) (by have := HLK.out; omega)
          have hcb := HPL.out.k i hin
          have hnb := HOK.out.nt i hin
          obtain ⟨C, hC⟩ : ∃ C, atL k i = C := ⟨_, rfl⟩
          rw [hC] at d0 HM hcb
          obtain ⟨b, o, rfl, a0, a1, a2, a3, a4⟩ := (HA.out.keep HB3.out (Nat.le_refl _)).at hin
          rw [← ntAt_at hin] at a2
          obtain ⟨M, hM⟩ : ∃ M, (ntAt s i).b = M := ⟨_, rfl⟩
          rw [hM] at a2 HM hcb hnb
          have wr1 : IntKind.i64.wrap (C + 1) = C + 1 := IntWalk.i64_in _ (by omega)
          have i2 : (i : Int) < (k.length : Int) := by have := HLK.out; omega
          clear hC hcb hnb hM a0 a1 a3 a4
          go_upto_region 6 with fail
          go_region
          rw [min_if]
          obtain ⟨V, hV⟩ : ∃ V, min M (C + 1) = V := ⟨_, rfl⟩
          rw [hV] at HM ⊢
          have hx4 := Lib.hid ((FX3.out.wick i V).drew)
          generalize (w3.setCell ⟨g2, i, none⟩ (.int .i64 V)).drew = v4 at hx4 ⊢
          clear hV
          go_wp2_with fail
          go_meet
          case rel => exact ⟨s.sl, s.sh, c, _, g1, c1, g2, c2, HM.out, hx4.out⟩
      case rest =>
        clear HB3 NBs3 NBp3 cBs0_3 cBs1_3 cBs2_3 cBs3_3 cBs4_3 cBp0_3 cBp1_3 FX3
        generalize wc = w3 at hcut ⊢
        obtain ⟨sl, sh, c', k', g1', c1', g2', c2', hF, hM⟩ := hcut
        have hy1 := hM.2.2.1.ints
        have hy2 := hM.2.2.2.1.ints
        have hb := hM.below
        have hBy := hM.2.1
        have hBx : w3.heap[Bx]? = some (.cells #[.int .i64 (reS s sl sh).cap, .int .i64 (reS s sl sh).can, .int .i64 (reS s sl sh).sl, .int .i64 (reS s sl sh).sh, .slice A (reS s sl sh).ns.length cp] 26 (0, 0)) := hM.1
        have hA' : NtsAt w A (reS s sl sh).ns := HA.out
        have hP' := hF.ok
        have hC' := hF.cmp H0.out
        have hl' : (reS s sl sh).ns.length = s.ns.length := rfl
        rw [HR.out] at hC'
        clear hM hF
        generalize reS s sl sh = s' at hBx hA' hP' hC' hl'
        have HA' := Lib.hid hA'
        have HP' := Lib.hid hP'
        have HC' := Lib.hid hC'
        have HL' := Lib.hid hl'
        have hlc' : c'.length ≤ 1000000 := by obtain ⟨_, h, _⟩ := plan_lens s' c' k' hP'; omega
        have hlk' : k'.length ≤ 1000000 := by obtain ⟨_, _, h⟩ := plan_lens s' c' k' hP'; omega
        have hn' : s'.ns.length ≤ 1000000 := by omega
        clear hA' hP' hC' hl'
        have HB3 := Lib.hid ((HB2.out).trans (hb.mono (HB2.out).size))
        have NBs3 := Lib.hid ((hb.block Bs (Array.getElem?_eq_some_iff.1 NBs2.out).1).trans NBs2.out)
        have NBp3 := Lib.hid ((hb.block Bp (Array.getElem?_eq_some_iff.1 NBp2.out).1).trans NBp2.out)
        have FY13 := Lib.hid hy1
        have FY23 := Lib.hid hy2
        clear HB2 NBs2 NBp2 cBs0_2 cBs1_2 cBs2_2 cBs3_2 cBs4_2 cBp0_2 cBp1_2 hy1 hy2 hb 
        obtain ⟨cBs0_3, cBs1_3, cBs2_3, cBs3_3, cBs4_3⟩ := cells5 NBs3.out
        obtain ⟨cBp0_3, cBp1_3⟩ := cells2 NBp3.out
        have NBx3 := Lib.hid hBx
        have NBy3 := Lib.hid hBy
        clear hBx hBy
        obtain ⟨cBx0_3, cBx1_3, cBx2_3, cBx3_3, cBx4_3⟩ := cells5 NBx3.out
        obtain ⟨cBy0_3, cBy1_3⟩ := cells2 NBy3.out
        have hon := Lib.hid (fun A2 cp2 Ac2 Ak2 cc2 ck2 W x1 x2 x3 => oil_nil s A2 cp2 Ac2 Ak2 cc2 ck2 c k W x1 x2 x3 H0.out)
        have hon' := Lib.hid (fun A2 cp2 Ac2 Ak2 cc2 ck2 W x1 x2 x3 => oil_nil s' A2 cp2 Ac2 Ak2 cc2 ck2 c' k' W x1 x2 x3 HP'.out)
        have hdk := Lib.hid (fun A2 cp2 Ac2 Ak2 cc2 ck2 W x1 x2 x3 => dark_yes s A2 cp2 Ac2 Ak2 cc2 ck2 c k W x1 x2 x3 H0.out)
        have hdk' := Lib.hid (fun A2 cp2 Ac2 Ak2 cc2 ck2 W x1 x2 x3 => dark_yes s' A2 cp2 Ac2 Ak2 cc2 ck2 c' k' W x1 x2 x3 HP'.out)
        go_wp2_with fail
        go_region_held3 (fun X => X.cell? ⟨Bs, 0, none⟩ = some (.int .i64 s.cap) ∧ X.cell? ⟨Bs, 1, none⟩ = some (.int .i64 s.can) ∧ X.cell? ⟨Bs, 2, none⟩ = some (.int .i64 s.sl) ∧ X.cell? ⟨Bs, 3, none⟩ = some (.int .i64 s.sh) ∧ X.cell? ⟨Bs, 4, none⟩ = some (.slice A s.ns.length cp) ∧ X.cell? ⟨Bp, 0, none⟩ = some (.slice Ac c.length cc) ∧ X.cell? ⟨Bp, 1, none⟩ = some (.slice Ak k.length ck))
          (first | go_keep | exact ⟨(cell_later hb0 cBs0_3), (cell_later hb0 cBs1_3), (cell_later hb0 cBs2_3), (cell_later hb0 cBs3_3), (cell_later hb0 cBs4_3), (cell_later hb0 cBp0_3), (cell_later hb0 cBp1_3)⟩ | exact ⟨(cell_later hb1 (cell_later hb0 cBs0_3)), (cell_later hb1 (cell_later hb0 cBs1_3)), (cell_later hb1 (cell_later hb0 cBs2_3)), (cell_later hb1 (cell_later hb0 cBs3_3)), (cell_later hb1 (cell_later hb0 cBs4_3)), (cell_later hb1 (cell_later hb0 cBp0_3)), (cell_later hb1 (cell_later hb0 cBp1_3))⟩ | exact ⟨(cell_later hb2 (cell_later hb1 (cell_later hb0 cBs0_3))), (cell_later hb2 (cell_later hb1 (cell_later hb0 cBs1_3))), (cell_later hb2 (cell_later hb1 (cell_later hb0 cBs2_3))), (cell_later hb2 (cell_later hb1 (cell_later hb0 cBs3_3))), (cell_later hb2 (cell_later hb1 (cell_later hb0 cBs4_3))), (cell_later hb2 (cell_later hb1 (cell_later hb0 cBp0_3))), (cell_later hb2 (cell_later hb1 (cell_later hb0 cBp1_3)))⟩)
          (first | (go_at_call 19; refine (store_conv s A cp w3.drew (HA.out.keep HB3.out.drew (Nat.le_refl _)) (by omega)).mono ?_; rintro e w3_0 ⟨A2, cp2, rfl, hs2, hb0⟩; have hB0 := HB3.out.drew.trans (hb0.mono HB3.out.drew.size)) | (go_at_call 21; refine (plan_conv Ac Ak cc ck c k w3_0 n1 n2 (HC.out.keep hB0 (Nat.le_refl _)) (HK.out.keep hB0 (Nat.le_refl _)) c9 k9).mono ?_; rintro e w3_1 ⟨Ac2, Ak2, cc2, ck2, rfl, hc2, hk2, hb1⟩; have hB1 := hB0.trans (hb1.mono hB0.size); have hs3 := hs2.keep hb1 (Nat.le_refl _)) | (go_at_call 45; refine (hon.out A2 cp2 Ac2 Ak2 cc2 ck2 w3_1 hs3 hc2 hk2).mono ?_; rintro e w4 ⟨La, lca, L, H, rfl, hr1, hra, hb2⟩; have hB2 := hB1.trans (hb2.mono hB1.size)))
        have hbR : Below w3.drew.heap.size w3.drew w4 := ((((hb0).trans (hb1.mono (hb0).size))).trans (hb2.mono (((hb0).trans (hb1.mono (hb0).size))).size))
        have HB4 := Lib.hid ((HB3.out.drew).trans (hbR.mono (HB3.out.drew).size))
        have NBs4 := Lib.hid ((hbR.block Bs (Array.getElem?_eq_some_iff.1 NBs3.out).1).trans NBs3.out)
        have NBp4 := Lib.hid ((hbR.block Bp (Array.getElem?_eq_some_iff.1 NBp3.out).1).trans NBp3.out)
        have NBx4 := Lib.hid ((hbR.block Bx (Array.getElem?_eq_some_iff.1 NBx3.out).1).trans NBx3.out)
        have NBy4 := Lib.hid ((hbR.block By (Array.getElem?_eq_some_iff.1 NBy3.out).1).trans NBy3.out)
        have FY14 := Lib.hid ((FY13.out.drew).keep hbR (Nat.le_refl _))
        have FY24 := Lib.hid ((FY23.out.drew).keep hbR (Nat.le_refl _))
        have FLa4 := Lib.hid hra
        clear HB3 NBs3 NBp3 NBx3 NBy3 cBs0_3 cBs1_3 cBs2_3 cBs3_3 cBs4_3 cBp0_3 cBp1_3 cBx0_3 cBx1_3 cBx2_3 cBx3_3 cBx4_3 cBy0_3 cBy1_3 FY13 FY23 hra hbR hb0 hB0 hb1 hB1 hb2 hB2 hs2 hc2 hk2 hs3
        obtain ⟨cBs0_4, cBs1_4, cBs2_4, cBs3_4, cBs4_4⟩ := cells5 NBs4.out
        obtain ⟨cBp0_4, cBp1_4⟩ := cells2 NBp4.out
        obtain ⟨cBx0_4, cBx1_4, cBx2_4, cBx3_4, cBx4_4⟩ := cells5 NBx4.out
        obtain ⟨cBy0_4, cBy1_4⟩ := cells2 NBy4.out
        have HR1 := Lib.hid hr1
        clear hr1
        go_wp2_with fail
        go_region_held3 (fun X => X.cell? ⟨Bx, 0, none⟩ = some (.int .i64 s'.cap) ∧ X.cell? ⟨Bx, 1, none⟩ = some (.int .i64 s'.can) ∧ X.cell? ⟨Bx, 2, none⟩ = some (.int .i64 s'.sl) ∧ X.cell? ⟨Bx, 3, none⟩ = some (.int .i64 s'.sh) ∧ X.cell? ⟨Bx, 4, none⟩ = some (.slice A s'.ns.length cp) ∧ X.cell? ⟨By, 0, none⟩ = some (.slice (some ⟨g1', 0, none⟩) c'.length c1') ∧ X.cell? ⟨By, 1, none⟩ = some (.slice (some ⟨g2', 0, none⟩) k'.length c2'))
          (first | go_keep | exact ⟨(cell_later hb0 cBx0_4), (cell_later hb0 cBx1_4), (cell_later hb0 cBx2_4), (cell_later hb0 cBx3_4), (cell_later hb0 cBx4_4), (cell_later hb0 cBy0_4), (cell_later hb0 cBy1_4)⟩ | exact ⟨(cell_later hb1 (cell_later hb0 cBx0_4)), (cell_later hb1 (cell_later hb0 cBx1_4)), (cell_later hb1 (cell_later hb0 cBx2_4)), (cell_later hb1 (cell_later hb0 cBx3_4)), (cell_later hb1 (cell_later hb0 cBx4_4)), (cell_later hb1 (cell_later hb0 cBy0_4)), (cell_later hb1 (cell_later hb0 cBy1_4))⟩ | exact ⟨(cell_later hb2 (cell_later hb1 (cell_later hb0 cBx0_4))), (cell_later hb2 (cell_later hb1 (cell_later hb0 cBx1_4))), (cell_later hb2 (cell_later hb1 (cell_later hb0 cBx2_4))), (cell_later hb2 (cell_later hb1 (cell_later hb0 cBx3_4))), (cell_later hb2 (cell_later hb1 (cell_later hb0 cBx4_4))), (cell_later hb2 (cell_later hb1 (cell_later hb0 cBy0_4))), (cell_later hb2 (cell_later hb1 (cell_later hb0 cBy1_4)))⟩)
          (first | (go_at_call 19; refine (store_conv s' A cp w4.drew (HA'.out.keep HB4.out.drew (Nat.le_refl _)) hn').mono ?_; rintro e w4_0 ⟨A2, cp2, rfl, hs2, hb0⟩; have hB0 := HB4.out.drew.trans (hb0.mono HB4.out.drew.size); have yy1 := (FY14.out.drew).keep hb0 (Nat.le_refl _); have yy2 := (FY24.out.drew).keep hb0 (Nat.le_refl _)) | (go_at_call 21; refine (plan_conv (some ⟨g1', 0, none⟩) (some ⟨g2', 0, none⟩) c1' c2' c' k' w4_0 (fun h => by cases h) (fun h => by cases h) yy1 yy2 hlc' hlk').mono ?_; rintro e w4_1 ⟨Ac2, Ak2, cc2, ck2, rfl, hc2, hk2, hb1⟩; have hB1 := hB0.trans (hb1.mono hB0.size); have hs3 := hs2.keep hb1 (Nat.le_refl _)) | (go_at_call 45; refine (hon'.out A2 cp2 Ac2 Ak2 cc2 ck2 w4_1 hs3 hc2 hk2).mono ?_; rintro e w5 ⟨Lb, lcb, L', H', rfl, hr2, hrb, hb2⟩; have hB2 := hB1.trans (hb2.mono hB1.size)))
        have hbR : Below w4.drew.heap.size w4.drew w5 := ((((hb0).trans (hb1.mono (hb0).size))).trans (hb2.mono (((hb0).trans (hb1.mono (hb0).size))).size))
        have HB5 := Lib.hid ((HB4.out.drew).trans (hbR.mono (HB4.out.drew).size))
        have NBs5 := Lib.hid ((hbR.block Bs (Array.getElem?_eq_some_iff.1 NBs4.out).1).trans NBs4.out)
        have NBp5 := Lib.hid ((hbR.block Bp (Array.getElem?_eq_some_iff.1 NBp4.out).1).trans NBp4.out)
        have NBx5 := Lib.hid ((hbR.block Bx (Array.getElem?_eq_some_iff.1 NBx4.out).1).trans NBx4.out)
        have NBy5 := Lib.hid ((hbR.block By (Array.getElem?_eq_some_iff.1 NBy4.out).1).trans NBy4.out)
        have FY15 := Lib.hid ((FY14.out.drew).keep hbR (Nat.le_refl _))
        have FY25 := Lib.hid ((FY24.out.drew).keep hbR (Nat.le_refl _))
        have FLa5 := Lib.hid ((FLa4.out.drew).keep hbR (Nat.le_refl _))
        have FLb5 := Lib.hid hrb
        clear HB4 NBs4 NBp4 NBx4 NBy4 cBs0_4 cBs1_4 cBs2_4 cBs3_4 cBs4_4 cBp0_4 cBp1_4 cBx0_4 cBx1_4 cBx2_4 cBx3_4 cBx4_4 cBy0_4 cBy1_4 FY14 FY24 FLa4 hrb hbR hb0 hB0 hb1 hB1 hb2 hB2 hs2 hc2 hk2 hs3 yy1 yy2
        obtain ⟨cBs0_5, cBs1_5, cBs2_5, cBs3_5, cBs4_5⟩ := cells5 NBs5.out
        obtain ⟨cBp0_5, cBp1_5⟩ := cells2 NBp5.out
        obtain ⟨cBx0_5, cBx1_5, cBx2_5, cBx3_5, cBx4_5⟩ := cells5 NBx5.out
        obtain ⟨cBy0_5, cBy1_5⟩ := cells2 NBy5.out
        have HR2 := Lib.hid hr2
        clear hr2
        go_wp2_with fail
        go_region_held3 (fun X => X.cell? ⟨Bs, 0, none⟩ = some (.int .i64 s.cap) ∧ X.cell? ⟨Bs, 1, none⟩ = some (.int .i64 s.can) ∧ X.cell? ⟨Bs, 2, none⟩ = some (.int .i64 s.sl) ∧ X.cell? ⟨Bs, 3, none⟩ = some (.int .i64 s.sh) ∧ X.cell? ⟨Bs, 4, none⟩ = some (.slice A s.ns.length cp) ∧ X.cell? ⟨Bp, 0, none⟩ = some (.slice Ac c.length cc) ∧ X.cell? ⟨Bp, 1, none⟩ = some (.slice Ak k.length ck))
          (first | go_keep | exact ⟨(cell_later hb0 cBs0_5), (cell_later hb0 cBs1_5), (cell_later hb0 cBs2_5), (cell_later hb0 cBs3_5), (cell_later hb0 cBs4_5), (cell_later hb0 cBp0_5), (cell_later hb0 cBp1_5)⟩ | exact ⟨(cell_later hb1 (cell_later hb0 cBs0_5)), (cell_later hb1 (cell_later hb0 cBs1_5)), (cell_later hb1 (cell_later hb0 cBs2_5)), (cell_later hb1 (cell_later hb0 cBs3_5)), (cell_later hb1 (cell_later hb0 cBs4_5)), (cell_later hb1 (cell_later hb0 cBp0_5)), (cell_later hb1 (cell_later hb0 cBp1_5))⟩ | exact ⟨(cell_later hb2 (cell_later hb1 (cell_later hb0 cBs0_5))), (cell_later hb2 (cell_later hb1 (cell_later hb0 cBs1_5))), (cell_later hb2 (cell_later hb1 (cell_later hb0 cBs2_5))), (cell_later hb2 (cell_later hb1 (cell_later hb0 cBs3_5))), (cell_later hb2 (cell_later hb1 (cell_later hb0 cBs4_5))), (cell_later hb2 (cell_later hb1 (cell_later hb0 cBp0_5))), (cell_later hb2 (cell_later hb1 (cell_later hb0 cBp1_5)))⟩)
          (first | (go_at_call 19; refine (store_conv s A cp w5.drew (HA.out.keep HB5.out.drew (Nat.le_refl _)) (by omega)).mono ?_; rintro e w5_0 ⟨A2, cp2, rfl, hs2, hb0⟩; have hB0 := HB5.out.drew.trans (hb0.mono HB5.out.drew.size)) | (go_at_call 21; refine (plan_conv Ac Ak cc ck c k w5_0 n1 n2 (HC.out.keep hB0 (Nat.le_refl _)) (HK.out.keep hB0 (Nat.le_refl _)) c9 k9).mono ?_; rintro e w5_1 ⟨Ac2, Ak2, cc2, ck2, rfl, hc2, hk2, hb1⟩; have hB1 := hB0.trans (hb1.mono hB0.size); have hs3 := hs2.keep hb1 (Nat.le_refl _)) | (go_at_call 46; refine (hdk.out A2 cp2 Ac2 Ak2 cc2 ck2 w5_1 hs3 hc2 hk2).mono ?_; rintro e w6 ⟨Da, dca, rfl, hda, hb2⟩; have hB2 := hB1.trans (hb2.mono hB1.size)))
        have hbR : Below w5.drew.heap.size w5.drew w6 := ((((hb0).trans (hb1.mono (hb0).size))).trans (hb2.mono (((hb0).trans (hb1.mono (hb0).size))).size))
        have HB6 := Lib.hid ((HB5.out.drew).trans (hbR.mono (HB5.out.drew).size))
        have NBs6 := Lib.hid ((hbR.block Bs (Array.getElem?_eq_some_iff.1 NBs5.out).1).trans NBs5.out)
        have NBp6 := Lib.hid ((hbR.block Bp (Array.getElem?_eq_some_iff.1 NBp5.out).1).trans NBp5.out)
        have NBx6 := Lib.hid ((hbR.block Bx (Array.getElem?_eq_some_iff.1 NBx5.out).1).trans NBx5.out)
        have NBy6 := Lib.hid ((hbR.block By (Array.getElem?_eq_some_iff.1 NBy5.out).1).trans NBy5.out)
        have FY16 := Lib.hid ((FY15.out.drew).keep hbR (Nat.le_refl _))
        have FY26 := Lib.hid ((FY25.out.drew).keep hbR (Nat.le_refl _))
        have FLa6 := Lib.hid ((FLa5.out.drew).keep hbR (Nat.le_refl _))
        have FLb6 := Lib.hid ((FLb5.out.drew).keep hbR (Nat.le_refl _))
        have FDa6 := Lib.hid hda
        clear HB5 NBs5 NBp5 NBx5 NBy5 cBs0_5 cBs1_5 cBs2_5 cBs3_5 cBs4_5 cBp0_5 cBp1_5 cBx0_5 cBx1_5 cBx2_5 cBx3_5 cBx4_5 cBy0_5 cBy1_5 FY15 FY25 FLa5 FLb5 hda hbR hb0 hB0 hb1 hB1 hb2 hB2 hs2 hc2 hk2 hs3
        obtain ⟨cBs0_6, cBs1_6, cBs2_6, cBs3_6, cBs4_6⟩ := cells5 NBs6.out
        obtain ⟨cBp0_6, cBp1_6⟩ := cells2 NBp6.out
        obtain ⟨cBx0_6, cBx1_6, cBx2_6, cBx3_6, cBx4_6⟩ := cells5 NBx6.out
        obtain ⟨cBy0_6, cBy1_6⟩ := cells2 NBy6.out
        go_wp2_with fail
        go_region_held3 (fun X => X.cell? ⟨Bx, 0, none⟩ = some (.int .i64 s'.cap) ∧ X.cell? ⟨Bx, 1, none⟩ = some (.int .i64 s'.can) ∧ X.cell? ⟨Bx, 2, none⟩ = some (.int .i64 s'.sl) ∧ X.cell? ⟨Bx, 3, none⟩ = some (.int .i64 s'.sh) ∧ X.cell? ⟨Bx, 4, none⟩ = some (.slice A s'.ns.length cp) ∧ X.cell? ⟨By, 0, none⟩ = some (.slice (some ⟨g1', 0, none⟩) c'.length c1') ∧ X.cell? ⟨By, 1, none⟩ = some (.slice (some ⟨g2', 0, none⟩) k'.length c2'))
          (first | go_keep | exact ⟨(cell_later hb0 cBx0_6), (cell_later hb0 cBx1_6), (cell_later hb0 cBx2_6), (cell_later hb0 cBx3_6), (cell_later hb0 cBx4_6), (cell_later hb0 cBy0_6), (cell_later hb0 cBy1_6)⟩ | exact ⟨(cell_later hb1 (cell_later hb0 cBx0_6)), (cell_later hb1 (cell_later hb0 cBx1_6)), (cell_later hb1 (cell_later hb0 cBx2_6)), (cell_later hb1 (cell_later hb0 cBx3_6)), (cell_later hb1 (cell_later hb0 cBx4_6)), (cell_later hb1 (cell_later hb0 cBy0_6)), (cell_later hb1 (cell_later hb0 cBy1_6))⟩ | exact ⟨(cell_later hb2 (cell_later hb1 (cell_later hb0 cBx0_6))), (cell_later hb2 (cell_later hb1 (cell_later hb0 cBx1_6))), (cell_later hb2 (cell_later hb1 (cell_later hb0 cBx2_6))), (cell_later hb2 (cell_later hb1 (cell_later hb0 cBx3_6))), (cell_later hb2 (cell_later hb1 (cell_later hb0 cBx4_6))), (cell_later hb2 (cell_later hb1 (cell_later hb0 cBy0_6))), (cell_later hb2 (cell_later hb1 (cell_later hb0 cBy1_6)))⟩)
          (first | (go_at_call 19; refine (store_conv s' A cp w6.drew (HA'.out.keep HB6.out.drew (Nat.le_refl _)) hn').mono ?_; rintro e w6_0 ⟨A2, cp2, rfl, hs2, hb0⟩; have hB0 := HB6.out.drew.trans (hb0.mono HB6.out.drew.size); have yy1 := (FY16.out.drew).keep hb0 (Nat.le_refl _); have yy2 := (FY26.out.drew).keep hb0 (Nat.le_refl _)) | (go_at_call 21; refine (plan_conv (some ⟨g1', 0, none⟩) (some ⟨g2', 0, none⟩) c1' c2' c' k' w6_0 (fun h => by cases h) (fun h => by cases h) yy1 yy2 hlc' hlk').mono ?_; rintro e w6_1 ⟨Ac2, Ak2, cc2, ck2, rfl, hc2, hk2, hb1⟩; have hB1 := hB0.trans (hb1.mono hB0.size); have hs3 := hs2.keep hb1 (Nat.le_refl _)) | (go_at_call 46; refine (hdk'.out A2 cp2 Ac2 Ak2 cc2 ck2 w6_1 hs3 hc2 hk2).mono ?_; rintro e w7 ⟨Db, dcb, rfl, hdb, hb2⟩; have hB2 := hB1.trans (hb2.mono hB1.size)))
        have hbR : Below w6.drew.heap.size w6.drew w7 := ((((hb0).trans (hb1.mono (hb0).size))).trans (hb2.mono (((hb0).trans (hb1.mono (hb0).size))).size))
        have HB7 := Lib.hid ((HB6.out.drew).trans (hbR.mono (HB6.out.drew).size))
        have NBs7 := Lib.hid ((hbR.block Bs (Array.getElem?_eq_some_iff.1 NBs6.out).1).trans NBs6.out)
        have NBp7 := Lib.hid ((hbR.block Bp (Array.getElem?_eq_some_iff.1 NBp6.out).1).trans NBp6.out)
        have NBx7 := Lib.hid ((hbR.block Bx (Array.getElem?_eq_some_iff.1 NBx6.out).1).trans NBx6.out)
        have NBy7 := Lib.hid ((hbR.block By (Array.getElem?_eq_some_iff.1 NBy6.out).1).trans NBy6.out)
        have FY17 := Lib.hid ((FY16.out.drew).keep hbR (Nat.le_refl _))
        have FY27 := Lib.hid ((FY26.out.drew).keep hbR (Nat.le_refl _))
        have FLa7 := Lib.hid ((FLa6.out.drew).keep hbR (Nat.le_refl _))
        have FLb7 := Lib.hid ((FLb6.out.drew).keep hbR (Nat.le_refl _))
        have FDa7 := Lib.hid ((FDa6.out.drew).keep hbR (Nat.le_refl _))
        have FDb7 := Lib.hid hdb
        clear HB6 NBs6 NBp6 NBx6 NBy6 cBs0_6 cBs1_6 cBs2_6 cBs3_6 cBs4_6 cBp0_6 cBp1_6 cBx0_6 cBx1_6 cBx2_6 cBx3_6 cBx4_6 cBy0_6 cBy1_6 FY16 FY26 FLa6 FLb6 FDa6 hdb hbR hb0 hB0 hb1 hB1 hb2 hB2 hs2 hc2 hk2 hs3 yy1 yy2
        obtain ⟨cBs0_7, cBs1_7, cBs2_7, cBs3_7, cBs4_7⟩ := cells5 NBs7.out
        obtain ⟨cBp0_7, cBp1_7⟩ := cells2 NBp7.out
        obtain ⟨cBx0_7, cBx1_7, cBx2_7, cBx3_7, cBx4_7⟩ := cells5 NBx7.out
        obtain ⟨cBy0_7, cBy1_7⟩ := cells2 NBy7.out
        have hle : ((s.ns.length : Int) != (s'.ns.length : Int)) = false := by have := HL'.out; simp; omega
        have hup := HC'.out.up
        have hdn := HC'.out.dn
        have hd1 := darkTo_len s (atL c) (atL k) s.ns.length
        have hd2 := darkTo_len s' (atL c') (atL k') s'.ns.length
        have hd3 : (darkL s (atL c) (atL k)).length ≤ 6 := by unfold darkL; omega
        have hd4 : (darkL s' (atL c') (atL k')).length ≤ 6 := by unfold darkL; have := HL'.out; omega
        have HD3 := Lib.hid hd3
        have HD4 := Lib.hid hd4
        generalize darkL s (atL c) (atL k) = l at HD3 hup hdn FDa7 ⊢
        generalize darkL s' (atL c') (atL k') = l' at HD4 hup hdn FDb7 ⊢
        have HCU := Lib.hid hup
        have HCC := Lib.hid hdn
        clear hup hdn hd1 hd2 hd3 hd4
        go_upto_if 154 with fail
        go_cut [14, 16, 18, 20] from 152 to 158 (MRes s.ns.length w)
        case first =>
          have hg : ∀ (A1 : Option Addr), RngsAt w7 (.slice Lb s'.ns.length lcb) s'.ns.length L' H' → RngsAt w7 (.slice Lb s.ns.length lcb) s.ns.length L' H' := fun _ h => by rwa [HL'.out] at h
          by_cases hr2 : R = 2
          · subst hr2
            go_wp2_with fail
            go_meet
            case rel =>
              obtain ⟨h1, h2⟩ := HCC.out (by first | rfl | trivial)
              refine ⟨Lb, lcb, La, lca, L', H', L, H, Db, dcb, Da, dca, l', l, by rw [← HL'.out], rfl, rfl, rfl, hg none FLb7.out, FLa7.out, FDb7.out, FDa7.out, h1 _ _ _ _ HR1.out HR2.out, sub_of h2, HD4.out, HD3.out, HB7.out⟩
          · have hr2' : (R == 2) = false := by simpa using hr2
            go_wp2_with fail
            go_meet
            case rel =>
              obtain ⟨h1, h2⟩ := HCU.out hr2
              refine ⟨La, lca, Lb, lcb, L, H, L', H', Da, dca, Db, dcb, l, l', rfl, by rw [← HL'.out], rfl, rfl, FLa7.out, hg none FLb7.out, FDa7.out, FDb7.out, h1 _ _ _ _ HR1.out HR2.out, sub_of h2, HD3.out, HD4.out, HB7.out⟩
        case rest =>
          obtain ⟨A1, c1, A2, c2, X, Y, X', Y', A3, c3, A4, c4, la, lb, rfl, rfl, rfl, rfl, ha, hb, hc, hd, hle, hsub, hl3, hl4, hbe⟩ := hcut
          generalize wc = v at ha hb hc hd hbe ⊢
          have HAA := Lib.hid ha
          have HBB := Lib.hid hb
          have HCD := Lib.hid hc
          have HDD := Lib.hid hd
          have HLE := Lib.hid hle
          have HSUB := Lib.hid hsub
          have HBE := Lib.hid hbe
          have HL3 := Lib.hid hl3
          have HL4 := Lib.hid hl4
          clear ha hb hc hd hle hsub hbe hl3 hl4
          clear HB7 NBs7 NBp7 NBx7 NBy7 FLa7 FLb7 FDa7 FDb7 FY17 FY27
          clear cBs0_7 cBs1_7 cBs2_7 cBs3_7 cBs4_7 cBp0_7 cBp1_7 cBx0_7 cBx1_7 cBx2_7 cBx3_7 cBx4_7 cBy0_7 cBy1_7
          clear HR1 HR2 HCC HCU HD3 HD4 hon hon' hdk hdk' HC' HP' HA'
          go_wp2_with fail
          go_loopw [22] (MLRel s.ns.length v) (fun i _ => s.ns.length - (intOf i).toNat)
          case atStart => exact ⟨0, by omega, rfl, Below.refl _ _⟩
          case round =>
            obtain ⟨j, hj, rfl, hbe⟩ := hrel
            have HX := Lib.hid hbe
            clear hbe
            by_cases hlt : j < s.ns.length
            · have hlt' : decide ((j : Int) < (s.ns.length : Int)) = true := by simpa using hlt
              obtain ⟨b, o, rfl, a0, a1⟩ := (HAA.out.keep HX.out (Nat.le_refl _)).at_ hlt
              obtain ⟨b', o', rfl, d0, d1⟩ := (HBB.out.keep HX.out (Nat.le_refl _)).at_ hlt
              obtain ⟨q1, q2⟩ := HLE.out j hlt
              have q1' : decide (X' j < X j) = false := by simp; omega
              have q2' : decide (Y' j < Y j) = false := by simp; omega
              generalize X j = xj at a0 q1 q1'
              generalize Y j = yj at a1 q2 q2'
              generalize X' j = xj' at d0 q1 q1'
              generalize Y' j = yj' at d1 q2 q2'
              have i3 : (0 : Int) ≤ (j : Int) := by omega
              have i4 : (j : Int) < (s.ns.length : Int) := by omega
              clear q1 q2
              go_wp2_with fail
              go_quiet (fail)
              go_wp2_with fail
              go_roundw
              case rel => exact ⟨j + 1, by omega, by go_num, HX.out.drewN _⟩
              case measure => simp [intOf]; omega
            · have hlt' : decide ((j : Int) < (s.ns.length : Int)) = false := by simpa using hlt
              have HBF := Lib.hid (HBE.out.trans (HX.out.mono HBE.out.size))
              have hsb := Lib.hid (subset_any _ _ lb la wr (HDD.out.keep HX.out (Nat.le_refl _)) (HCD.out.keep HX.out (Nat.le_refl _)) (by have := HL4.out; omega) (by have := HL3.out; omega))
              rw [HSUB.out] at hsb
              go_wp2_with fail
              refine hsb.out.mono ?_
              rintro e wz ⟨rfl, rfl⟩
              go_wp2_with fail
              refine (awake_any _).mono ?_
              rintro e wz ⟨rfl, hbz⟩
              go_wp2_with fail
              go_ret
              exact ⟨rfl, HBF.out.trans (hbz.mono HBF.out.size)⟩
end Go.Proofs.Ytefhdcecbmgljaa

/-
  The program's calls, by cases.
-/
import Derived.Test.YtefhdcecbmgljaaAwake
import Derived.Test.YtefhdcecbmgljaaRefF
import Derived.Test.YtefhdcecbmgljaaMoreL
import Derived.Test.YtefhdcecbmgljaaPicks
set_option linter.all false
namespace Go.Proofs.Ytefhdcecbmgljaa
open Go.RowKit Go.WalkArith


theorem dipsL_zero {s : St} {c k : List Int} {dips : List Dp} (h : dippedL s c k dips = 0) : dips.length ≤ 6 ∧ ∀ d ∈ dips, dipB s d = true := by
  obtain ⟨h1, h2⟩ := dippedL_zero h
  refine ⟨h2, ?_⟩
  unfold dippedL at h
  rw [if_neg (by rw [h1]; simp)] at h
  unfold dipsL at h
  rw [if_neg (by omega)] at h
  split at h
  · rename_i h3; exact List.all_eq_true.1 h3
  · cases h
theorem dippedL_of {s : St} {c k : List Int} {dips : List Dp} (h : planL s c k = 0) (hl : dips.length ≤ 6) (hd : ∀ d ∈ dips, dipB s d = true) : dippedL s c k dips = 0 := by
  unfold dippedL dipsL
  rw [if_neg (by rw [h]; simp), if_neg (by omega), if_pos (List.all_eq_true.2 hd)]
section
variable (s : St) (A : Option Addr) (cp : Nat) (Ac Ak : Option Addr) (cc ck : Nat) (c k : List Int) (Ad : Option Addr) (cd : Nat) (dips : List Dp) (w : World)
theorem plan_lens (h : planL s c k = 0) : s.ns.length ≤ 6 ∧ c.length = s.ns.length ∧ k.length = s.ns.length := by
  obtain ⟨h0, h1, h2, _⟩ := planL_zero.1 h
  exact ⟨h0.len, h1, h2⟩
variable (hA : NtsAt w A s.ns) (hc : IntsAt w (.slice Ac c.length cc) c) (hk : IntsAt w (.slice Ak k.length ck) k)
section
variable (hd : DpsAt w Ad dips)
include hA hc hk hd
theorem oil_no (hn : s.ns.length ≤ 1000000) (hcl : c.length ≤ 1000000) (hkl : k.length ≤ 1000000) (hdl : dips.length ≤ 1000000) (h : dippedL s c k dips ≠ 0) :
    Calls Try.prog 45 #[.agg #[.int .i64 s.cap, .int .i64 s.can, .int .i64 s.sl, .int .i64 s.sh, .slice A s.ns.length cp], .agg #[.slice Ac c.length cc, .slice Ak k.length ck], .slice Ad dips.length cd] w fun e w' => e = .returned (.tuple #[.slice none 0 0, .int .i64 (dippedL s c k dips)]) ∧ Below w.heap.size w w' :=
  (oil_any s A cp Ac Ak cc ck c k Ad cd dips w hn hcl hkl hdl hA hc hk hd).mono fun e w' ⟨h1, h2⟩ => by
    rcases h2 with ⟨_, h2⟩ | ⟨h3, _⟩ | ⟨h3, _⟩
    · exact ⟨h2, h1⟩
    · exact absurd h3 h
    · exact absurd h3 h
theorem oil_fail (h : dippedL s c k dips = 0) (hx : ¬ Cons s (atL c) (atL k) dips) :
    Calls Try.prog 45 #[.agg #[.int .i64 s.cap, .int .i64 s.can, .int .i64 s.sl, .int .i64 s.sh, .slice A s.ns.length cp], .agg #[.slice Ac c.length cc, .slice Ak k.length ck], .slice Ad dips.length cd] w fun e w' => e = .returned (.tuple #[.slice none 0 0, .int .i64 9]) ∧ Below w.heap.size w w' := by
  obtain ⟨h0, h6⟩ := dippedL_zero h
  obtain ⟨l1, l2, l3⟩ := plan_lens s c k h0
  exact (oil_any s A cp Ac Ak cc ck c k Ad cd dips w (by omega) (by omega) (by omega) (by omega) hA hc hk hd).mono fun e w' ⟨h1, h2⟩ => by
    rcases h2 with ⟨h3, _⟩ | ⟨_, _, h2⟩ | ⟨_, h3, _⟩
    · exact absurd h h3
    · exact ⟨h2, h1⟩
    · exact absurd h3 hx
theorem oil_yes (h : dippedL s c k dips = 0) (hx : Cons s (atL c) (atL k) dips) :
    Calls Try.prog 45 #[.agg #[.int .i64 s.cap, .int .i64 s.can, .int .i64 s.sl, .int .i64 s.sh, .slice A s.ns.length cp], .agg #[.slice Ac c.length cc, .slice Ak k.length ck], .slice Ad dips.length cd] w fun e w' => ∃ A1 c1 L H, e = .returned (.tuple #[.slice A1 s.ns.length c1, .int .i64 0]) ∧ IsRng s (atL c) (atL k) dips L H ∧ RngsAt w' (.slice A1 s.ns.length c1) s.ns.length L H ∧ Below w.heap.size w w' := by
  obtain ⟨h0, h6⟩ := dippedL_zero h
  obtain ⟨l1, l2, l3⟩ := plan_lens s c k h0
  exact (oil_any s A cp Ac Ak cc ck c k Ad cd dips w (by omega) (by omega) (by omega) (by omega) hA hc hk hd).mono fun e w' ⟨h1, h2⟩ => by
    rcases h2 with ⟨h3, _⟩ | ⟨_, h3, _⟩ | ⟨_, _, v, L, H, he, h5, h6⟩
    · exact absurd h h3
    · exact absurd hx h3
    · have i1 := RngsAt.of_own h6
      obtain ⟨A1, c1, rfl, j1⟩ := id i1
      exact ⟨A1, c1, L, H, he, h5, i1, h1⟩
theorem leave_yes (h : dippedL s c k dips = 0) :
    Calls Try.prog 30 #[.agg #[.int .i64 s.cap, .int .i64 s.can, .int .i64 s.sl, .int .i64 s.sh, .slice A s.ns.length cp], .agg #[.slice Ac c.length cc, .slice Ak k.length ck], .slice Ad dips.length cd] w fun e w' => ∃ A1 c1, e = .returned (.tuple #[.slice A1 (leaveL s (atL c) (atL k) dips).length c1, .int .i64 0]) ∧ IntsAt w' (.slice A1 (leaveL s (atL c) (atL k) dips).length c1) (leaveL s (atL c) (atL k) dips) ∧ Below w.heap.size w w' := by
  obtain ⟨h0, h6⟩ := dippedL_zero h
  obtain ⟨l1, l2, l3⟩ := plan_lens s c k h0
  exact (leaveAll_any s A cp Ac Ak cc ck c k Ad cd dips w (by omega) (by omega) (by omega) (by omega) hA hc hk hd).mono fun e w' ⟨h1, h2⟩ => by
    rcases h2 with ⟨h3, _⟩ | ⟨_, v, he, h6⟩
    · exact absurd h h3
    · have i1 := IntsAt.of_own h6
      obtain ⟨A1, c1, rfl, j1⟩ := id i1
      exact ⟨A1, c1, he, i1, h1⟩
theorem leave_no (hn : s.ns.length ≤ 1000000) (hcl : c.length ≤ 1000000) (hkl : k.length ≤ 1000000) (hdl : dips.length ≤ 1000000) (h : dippedL s c k dips ≠ 0) :
    Calls Try.prog 30 #[.agg #[.int .i64 s.cap, .int .i64 s.can, .int .i64 s.sl, .int .i64 s.sh, .slice A s.ns.length cp], .agg #[.slice Ac c.length cc, .slice Ak k.length ck], .slice Ad dips.length cd] w fun e w' => e = .returned (.tuple #[.slice none 0 0, .int .i64 (dippedL s c k dips)]) ∧ Below w.heap.size w w' :=
  (leaveAll_any s A cp Ac Ak cc ck c k Ad cd dips w hn hcl hkl hdl hA hc hk hd).mono fun e w' ⟨h1, h2⟩ => by
    rcases h2 with ⟨_, h2⟩ | ⟨h3, _⟩
    · exact ⟨h2, h1⟩
    · exact absurd h3 h
end
include hA hc hk
theorem oil_nil (h : planL s c k = 0) :
    Calls Try.prog 45 #[.agg #[.int .i64 s.cap, .int .i64 s.can, .int .i64 s.sl, .int .i64 s.sh, .slice A s.ns.length cp], .agg #[.slice Ac c.length cc, .slice Ak k.length ck], .slice none 0 0] w fun e w' => ∃ A1 c1 L H, e = .returned (.tuple #[.slice A1 s.ns.length c1, .int .i64 0]) ∧ IsRng s (atL c) (atL k) [] L H ∧ RngsAt w' (.slice A1 s.ns.length c1) s.ns.length L H ∧ Below w.heap.size w w' :=
  oil_yes s A cp Ac Ak cc ck c k none 0 [] w hA hc hk (.inl rfl) (dippedL_of h (by simp) (fun d hd => by cases hd)) (cons_nil (planL_zero.1 h).1)
theorem dark_yes (h : planL s c k = 0) :
    Calls Try.prog 46 #[.agg #[.int .i64 s.cap, .int .i64 s.can, .int .i64 s.sl, .int .i64 s.sh, .slice A s.ns.length cp], .agg #[.slice Ac c.length cc, .slice Ak k.length ck]] w fun e w' => ∃ A1 c1, e = .returned (.tuple #[.slice A1 (darkL s (atL c) (atL k)).length c1, .int .i64 0]) ∧ IntsAt w' (.slice A1 (darkL s (atL c) (atL k)).length c1) (darkL s (atL c) (atL k)) ∧ Below w.heap.size w w' := by
  obtain ⟨l1, l2, l3⟩ := plan_lens s c k h
  exact (Dark_any s A cp Ac Ak cc ck c k w (by omega) (by omega) (by omega) hA hc hk).mono fun e w' ⟨h1, h2⟩ => by
    rcases h2 with ⟨h3, _⟩ | ⟨_, v, he, h6⟩
    · exact absurd h h3
    · have i1 := IntsAt.of_own h6
      obtain ⟨A1, c1, rfl, j1⟩ := id i1
      exact ⟨A1, c1, he, i1, h1⟩
theorem dark_no (hn : s.ns.length ≤ 1000000) (hcl : c.length ≤ 1000000) (hkl : k.length ≤ 1000000) (h : planL s c k ≠ 0) :
    Calls Try.prog 46 #[.agg #[.int .i64 s.cap, .int .i64 s.can, .int .i64 s.sl, .int .i64 s.sh, .slice A s.ns.length cp], .agg #[.slice Ac c.length cc, .slice Ak k.length ck]] w fun e w' => e = .returned (.tuple #[.slice none 0 0, .int .i64 (planL s c k)]) ∧ Below w.heap.size w w' :=
  (Dark_any s A cp Ac Ak cc ck c k w hn hcl hkl hA hc hk).mono fun e w' ⟨h1, h2⟩ => by
    rcases h2 with ⟨_, h2⟩ | ⟨h3, _⟩
    · exact ⟨h2, h1⟩
    · exact absurd h3 h
end
theorem RngsAt.drew {W : World} {v : Value} {n : Nat} {lo hi : Nat → Int} (h : RngsAt W v n lo hi) : RngsAt W.drew v n lo hi := h.keep ((Below.refl _ _).drew) (Nat.le_refl _)
theorem RngsAt.at_ {W : World} {A : Option Addr} {n cap : Nat} {lo hi : Nat → Int} (h : RngsAt W (.slice A n cap) n lo hi) {i : Nat} (hi' : i < n) : ∃ b o, A = some ⟨b, o, none⟩ ∧ W.cell? ⟨b, o + i * 2, none⟩ = some (.int .i64 (lo i)) ∧ W.cell? ⟨b, o + i * 2 + 1, none⟩ = some (.int .i64 (hi i)) := by
  obtain ⟨A', cap', he, hc⟩ := h
  cases he
  obtain ⟨b, o, rfl, hd⟩ := hc.resolve_left (by omega)
  exact ⟨b, o, rfl, hd i hi'⟩
/-- A list that a call made. -/
def LstAt (W : World) (g cap : Nat) (xs : List Int) : Prop := W.ownsRow g 3 1 (.slice (some ⟨g, 0, none⟩) xs.length cap) xs.length (xs.map (Value.int .i64))
theorem LstAt.keep {W W' : World} {g cap : Nat} {xs : List Int} {B : Nat} (h : LstAt W g cap xs) (hb : Below B W W') (hB : W.heap.size ≤ B) : LstAt W' g cap xs :=
  own_of_blocks h fun g' hg => by
    have hlt := h.lt g' hg
    exact hb.block g' (by omega)
theorem LstAt.drew {W : World} {g cap : Nat} {xs : List Int} (h : LstAt W g cap xs) : LstAt W.drew g cap xs := h.keep ((Below.refl _ _).drew) (Nat.le_refl _)
theorem LstAt.ints {W : World} {g cap : Nat} {xs : List Int} (h : LstAt W g cap xs) : IntsAt W (.slice (some ⟨g, 0, none⟩) xs.length cap) xs := IntsAt.of_own h
theorem LstAt.lt {W : World} {g cap : Nat} {xs : List Int} (h : LstAt W g cap xs) : g < W.heap.size := (World.ownsRow.lt h g rfl).2
theorem LstAt.put {W : World} {g cap : Nat} {xs : List Int} (h : LstAt W g cap xs) (i : Nat) (x : Int) : LstAt (W.setCell ⟨g, i, none⟩ (.int .i64 x)) g cap (xs.set i x) := by
  have := own_setS h i (.int .i64 x)
  unfold LstAt
  rw [List.length_set, List.map_set]
  exact this
theorem LstAt.other {W : World} {g cap B i : Nat} {xs : List Int} {x : Value} (h : LstAt W g cap xs) (hne : g ≠ B) : LstAt (W.setCell ⟨B, i, none⟩ x) g cap xs :=
  own_of_blocks h fun g' hg => by
    have : g' = g := by simpa [Value.ownBlock] using hg.symm
    rw [this]
    exact Below.heap_setCell _ _ _ _ hne
theorem LstAt.cell {W : World} {g cap : Nat} {xs : List Int} (h : LstAt W g cap xs) {i : Nat} (hi : i < xs.length) : W.cell? ⟨g, i, none⟩ = some (.int .i64 (atL xs i)) ∧ W.frozen? ⟨g, i, none⟩ = false := by
  have := own_cell1 h
  refine ⟨this.1 i _ ?_, this.2 i⟩
  rw [List.getElem?_map, List.getElem?_eq_getElem hi, atL_at hi]; rfl
theorem list_new (A : Option Addr) (cap : Nat) (xs : List Int) (w : World) (h0 : A = none → cap = 0) (hv : IntsAt w (.slice A xs.length cap) xs) (hn : xs.length ≤ 1000000) (hp : 0 < xs.length) :
    Calls Try.prog 34 #[.slice A xs.length cap] w fun e w' => ∃ g cp, e = .returned (.slice (some ⟨g, 0, none⟩) xs.length cp) ∧ LstAt w' g cp xs ∧ w.heap.size ≤ g ∧ Below w.heap.size w w' :=
  (list_any A cap xs w h0 hv hn).mono fun e w' ⟨v, he, h1, h2⟩ => by
    obtain ⟨h3, ⟨h4, h5⟩ | ⟨g, cp, cur, h4, h5, h6, h7⟩⟩ := h1
    · omega
    · subst h4
      exact ⟨g, cp, he, ⟨h3, .inr ⟨g, cp, cur, rfl, Nat.le_refl _, h6, h7⟩⟩, h5, h2⟩
theorem block_ne {W : World} {B B' t t' : Nat} {x y : Array Value} {f f' : Nat × Nat} (h : W.heap[B]? = some (.cells x t f)) (h' : W.heap[B']? = some (.cells y t' f')) (ht : t ≠ t') : B ≠ B' := by
  rintro rfl
  rw [h] at h'
  simp only [Option.some.injEq, Obj.cells.injEq] at h'
  exact ht h'.2.1
theorem LstAt.ne {W : World} {g cap B t : Nat} {xs : List Int} {y : Array Value} {f : Nat × Nat} (h : LstAt W g cap xs) (hB : W.heap[B]? = some (.cells y t f)) (ht : 3 ≠ t) : g ≠ B := by
  obtain ⟨_, ⟨h4, _⟩ | ⟨g', cp, cur, h4, _, h6, _⟩⟩ := h
  · cases h4
  · cases h4
    exact block_ne h6 hB ht
end Go.Proofs.Ytefhdcecbmgljaa

/-
  The iterator over the arcs from a node: its contract.
-/
import Derived.Test.YtkloaeaepjoijaaPush
import Derived.RangeFuncNested
import Derived.RangeFuncBound
import Derived.RangeFuncCalls
import Derived.RangeFuncLeaves
import Derived.Shelf.Abstract
import Derived.Shelf.RegionOpen
import Derived.OwnWalkIn
import Derived.TacticsInMore
import Derived.LoopNIn
import Derived.LoopIn
import Derived.RegionIn
import Derived.Sort.QuietIn
set_option linter.all false
namespace Go.Proofs.Ytkloaeaepjoijaa
open Go.RowKit Go.WalkArith Go.Shelf
attribute [local go_sem] Oper.semAt_some

theorem grown_alloc_drewN (w : World) (o : Obj) (n : Nat) : w.grownBy ((w.alloc o).drewN n) none :=
  ⟨rfl, rfl, rfl, by simp, fun k hk _ => Below.heap_alloc w o k hk⟩

/-- What the iterator reads: its two captured variables, the net at work, the map. -/
structure ArcsEnv (W : World) (wv fv g b : Nat) (len : Nat) (src : Int) (f : Int → Int → Int → Int) : Prop where
  c1 : W.cell? ⟨wv, 0, none⟩ = some (.pointer (some ⟨g, 0, none⟩))
  c2 : W.cell? ⟨fv, 0, none⟩ = some (.int .i64 src)
  sl : ∃ A cap, W.cell? ⟨g, 0, none⟩ = some (.slice A len cap)
  mp : W.cell? ⟨g, 3, none⟩ = some (.map (some b))
  map : ArcMap W b f

/-- Four blocks lie as they lay. -/
structure KeepB (wv fv g b : Nat) (W W' : World) : Prop where
  size : W.heap.size ≤ W'.heap.size
  k1 : W'.heap[wv]? = W.heap[wv]?
  k2 : W'.heap[fv]? = W.heap[fv]?
  k3 : W'.heap[g]? = W.heap[g]?
  k4 : W'.heap[b]? = W.heap[b]?

theorem KeepB.refl (wv fv g b : Nat) (W : World) : KeepB wv fv g b W W := ⟨Nat.le_refl _, rfl, rfl, rfl, rfl⟩
theorem KeepB.trans {wv fv g b : Nat} {W W' W'' : World} (h : KeepB wv fv g b W W') (k : KeepB wv fv g b W' W'') : KeepB wv fv g b W W'' :=
  ⟨Nat.le_trans h.size k.size, k.k1.trans h.k1, k.k2.trans h.k2, k.k3.trans h.k3, k.k4.trans h.k4⟩
theorem KeepB.of_below {wv fv g b B : Nat} {W W' : World} (h : Below B W W') (h1 : wv < B) (h2 : fv < B) (h3 : g < B) (h4 : b < B) : KeepB wv fv g b W W' :=
  ⟨h.size, h.block _ h1, h.block _ h2, h.block _ h3, h.block _ h4⟩

theorem ArcsEnv.keep {W W' : World} {wv fv g b len : Nat} {src : Int} {f : Int → Int → Int → Int} (h : ArcsEnv W wv fv g b len src f) (k : KeepB wv fv g b W W') : ArcsEnv W' wv fv g b len src f := by
  obtain ⟨A, cap, hs⟩ := h.sl
  exact ⟨(World.cell?_of_block k.k1).trans h.c1, (World.cell?_of_block k.k2).trans h.c2, ⟨A, cap, (World.cell?_of_block k.k3).trans hs⟩, (World.cell?_of_block k.k3).trans h.mp, h.map.of_block k.k4⟩

theorem ArcsEnv.lts {W : World} {wv fv g b len : Nat} {src : Int} {f : Int → Int → Int → Int} (h : ArcsEnv W wv fv g b len src f) : wv < W.heap.size ∧ fv < W.heap.size ∧ g < W.heap.size ∧ b < W.heap.size :=
  ⟨World.block_lt_of_cell? W _ h.c1, World.block_lt_of_cell? W _ h.c2, World.block_lt_of_cell? W _ h.mp, h.map.lt⟩

/-- An arc from src along which something can still flow, by its end and its angle. -/
abbrev Arc (len : Nat) (src : Int) (f : Int → Int → Int → Int) := { p : Int × Int // 0 ≤ p.1 ∧ p.1 < 13 ∧ -1 ≤ p.2 ∧ p.2 < (len : Int) ∧ 0 < f src p.1 p.2 }
abbrev arcEncs (len : Nat) (src : Int) (f : Int → Int → Int → Int) (x : Arc len src f) : Array Value := #[.agg #[.int .i64 src, .int .i64 x.1.1, .int .i64 x.1.2], .int .i64 (f src x.1.1 x.1.2)]

def AllArcs (len : Nat) (src : Int) (f : Int → Int → Int → Int) (to i : Int) (xs : List (Arc len src f)) : Prop :=
  ∀ p : Arc len src f, (p.1.1 < to ∨ (p.1.1 = to ∧ p.1.2 < i)) → p ∈ xs

theorem allArcs_snoc {len : Nat} {src : Int} {f : Int → Int → Int → Int} {to i : Nat} {pre : List (Arc len src f)} {x : Arc len src f} (h : AllArcs len src f to ((i : Int) - 1) pre) (hx : x.1 = ((to : Int), (i : Int) - 1)) :
    AllArcs len src f to (((i + 1 : Nat) : Int) - 1) (pre ++ [x]) := by
  intro p hp
  by_cases e : p.1 = ((to : Int), (i : Int) - 1)
  · have : p = x := Subtype.ext (e.trans hx.symm)
    subst this
    simp
  · refine List.mem_append.2 (.inl (h p ?_))
    rcases hp with hp | ⟨h1, h2⟩
    · exact .inl hp
    · refine .inr ⟨h1, ?_⟩
      rcases Int.lt_or_le p.1.2 ((i : Int) - 1) with h3 | h3
      · exact h3
      · exact absurd (Prod.ext h1 (by show p.1.2 = (i : Int) - 1; omega)) e

theorem allArcs_skip {len : Nat} {src : Int} {f : Int → Int → Int → Int} {to i : Nat} {pre : List (Arc len src f)} (h : AllArcs len src f to ((i : Int) - 1) pre) (hx : ¬ 0 < f src to ((i : Int) - 1)) :
    AllArcs len src f to (((i + 1 : Nat) : Int) - 1) pre := by
  intro p hp
  refine h p ?_
  rcases hp with hp | ⟨h1, h2⟩
  · exact .inl hp
  · refine .inr ⟨h1, ?_⟩
    rcases Int.lt_or_le p.1.2 ((i : Int) - 1) with h3 | h3
    · exact h3
    · have h4 : p.1.2 = (i : Int) - 1 := by omega
      have := p.2.2.2.2.2
      rw [h1, h4] at this
      exact absurd this hx

theorem allArcs_row {len : Nat} {src : Int} {f : Int → Int → Int → Int} {to i : Nat} {pre : List (Arc len src f)} (hi : len + 1 ≤ i) (h : AllArcs len src f to ((i : Int) - 1) pre) :
    AllArcs len src f ((to + 1 : Nat) : Int) (-1) pre := by
  intro p hp
  refine h p ?_
  have := p.2
  omega

set_option maxRecDepth 100000 in
set_option maxHeartbeats 4000000 in
theorem arcs_stops (n : Nat) (wv fv g b len : Nat) (src : Int) (f : Int → Int → Int → Int) (w : World) (hlen : len ≤ 100) (hs0 : 0 ≤ src) (hs1 : src ≤ 12) (hE : ArcsEnv w wv fv g b len src f) :
    SeqStopsK Fence.wide n Try.prog 120 #[.pointer (some ⟨wv, 0, none⟩), .pointer (some ⟨fv, 0, none⟩)] (arcEncs len src f) (KeepB wv fv g b) (fun xs => AllArcs len src f 13 0 xs) (fun _ => True) 2000 w :=
  fun l J Jx W hW hJ hJx hY h0 => by
  have hE1 : ArcsEnv W wv fv g b len src f := hE.keep (KeepB.of_below hW hE.lts.1 hE.lts.2.1 hE.lts.2.2.1 hE.lts.2.2.2)
  clear hE hW
  refine callsIn_of_wp Try.func120 rfl trivial ?_ rfl
  simp only [Try.ntmps120, List.size_toArray, List.length_cons, List.length_nil, Nat.reduceAdd, Nat.reduceSub, Array.replicate_succ, Array.replicate_zero, List.push_toArray, List.append_toArray, List.nil_append, List.cons_append]
  gi_wp2
  gi_loopw [8] (fun t wr => ∃ to : Nat, to ≤ 13 ∧ t = .int .i64 to ∧ ∃ pre, J pre wr ∧ ArcsEnv wr wv fv g b len src f ∧ AllArcs len src f to (-1) pre ∧ pre.length ≤ to * 102 ∧ W.heap.size ≤ wr.heap.size)
    (fun t _ => 13 - (intOf t).toNat)
  case atStart =>
    exact ⟨0, by omega, rfl, [], h0, hE1, fun p hp => by have := p.2; omega, by simp, Nat.le_refl _⟩
  case round =>
    obtain ⟨to, hto, rfl, pre, hJs, hEs, hAll, hpl, hsz⟩ := hrel
    by_cases hlt : to < 13
    · have hlt' : decide ((to : Int) < 13) = true := by simp; omega
      gi_wp2
      obtain ⟨wo, rfl⟩ : ∃ wo : World, wo = wr := ⟨_, rfl⟩
      gi_loopw [5] (fun t wr => ∃ i : Nat, i ≤ len + 1 ∧ t = .int .i64 ((i : Int) - 1) ∧ ∃ pre, J pre wr ∧ ArcsEnv wr wv fv g b len src f ∧ AllArcs len src f to ((i : Int) - 1) pre ∧ pre.length ≤ to * 102 + i ∧ W.heap.size ≤ wr.heap.size)
        (fun t _ => ((len : Int) - intOf t).toNat)
      case atStart =>
        exact ⟨0, by omega, rfl, pre, hJs, hEs, hAll, by simpa using hpl, hsz⟩
      case round =>
        clear hJs hEs hAll hpl hsz pre
        obtain ⟨i, hi, rfl, pre, hJs, hEs, hAll, hpl, hsz⟩ := hrel
        obtain ⟨A, cap, hsl⟩ := hEs.sl
        have c1 := hEs.c1
        have c2 := hEs.c2
        have c3 := hEs.mp
        by_cases hil : i < len + 1
        · have hil' : decide ((i : Int) - 1 < (len : Int)) = true := by simp; omega
          have hkey : ∃ l, keyOf Try.prog 112 (arcV src to ((i : Int) - 1)) = some l := arc_key _ _ _ (wf_i64 ⟨by omega, by omega⟩) (wf_i64 ⟨by omega, by omega⟩) (wf_i64 ⟨by omega, by omega⟩)
          have hma : ArcMap (wr.alloc (.cells #[.int .i64 src, .int .i64 to, .int .i64 ((i : Int) - 1)] 112)) b f := hEs.map.of_block (Below.heap_alloc _ _ _ hEs.map.lt)
          have hlk : ∀ k, (Instr.lookup 151 (.map (some b)) (.agg #[.int .i64 src, .int .i64 to, .int .i64 ((i : Int) - 1)]) false).run Try.prog ((wr.alloc (.cells #[.int .i64 src, .int .i64 to, .int .i64 ((i : Int) - 1)] 112)).drewN k) = .ok (.int .i64 (f src to ((i : Int) - 1))) ((wr.alloc (.cells #[.int .i64 src, .int .i64 to, .int .i64 ((i : Int) - 1)] 112)).drewN k) := fun k =>
            (hma.of_block (w' := (wr.alloc (.cells #[.int .i64 src, .int .i64 to, .int .i64 ((i : Int) - 1)] 112)).drewN k) rfl).run_lookup hkey
          clear hkey hma
          have l1 := hEs.lts.1
          have l2 := hEs.lts.2.1
          have l3 := hEs.lts.2.2.1
          have HA := Lib.hid hAll
          clear hAll
          by_cases hp : 0 < f src to ((i : Int) - 1)
          · have hpb : decide ((0 : Int) < f src to ((i : Int) - 1)) = true := by simpa using hp
            gi_wp2
            gi_quiet (fail)
            obtain ⟨x, hx⟩ : ∃ x : Arc len src f, x.1 = ((to : Int), (i : Int) - 1) := ⟨⟨((to : Int), (i : Int) - 1), by simp; omega⟩, rfl⟩
            have hg1 : wr.grownBy ((wr.alloc (.cells #[.int .i64 src, .int .i64 to, .int .i64 ((i : Int) - 1)] 112)).drewN nq) none := grown_alloc_drewN wr _ nq
            have hkb : KeepB wv fv g b wr ((wr.alloc (.cells #[.int .i64 src, .int .i64 to, .int .i64 ((i : Int) - 1)] 112)).drewN nq) :=
              ⟨hg1.size, hg1.block _ l1 (by simp), hg1.block _ l2 (by simp), hg1.block _ l3 (by simp), hg1.block _ hEs.map.lt (by simp)⟩
            obtain ⟨fn, tmps, assign, body, hy, hR⟩ := hY pre x _ (hJ _ _ _ none hJs hg1 (by simp)) (by omega)
            dsimp only [arcEncs] at hy
            rw [hx] at hy
            have HX := Lib.hid hx
            clear hx
            gi_wp2
            refine ⟨fun h => (by simp [Fence.wide] at h), hR.mono ?_⟩
            rintro e W3 (⟨rfl, hJ3, hk3⟩ | ⟨rfl, hJx3⟩)
            · gi_wp2
              go_roundw
              case rel =>
                refine ⟨i + 1, by omega, by simp, pre ++ [x], hJ3, hEs.keep (hkb.trans hk3), ?_, by simp; omega, Nat.le_trans hsz (hkb.trans hk3).size⟩
                exact allArcs_snoc HA.out HX.out
              case measure => simp [intOf]; omega
            · gi_wp2
              refine bodyPost_ret (results_none rfl _ _ _) rfl ?_
              exact ⟨⟨_, rfl⟩, .inr ⟨_, trivial, hJx3⟩⟩
          · have hpb : decide ((0 : Int) < f src to ((i : Int) - 1)) = false := by simpa using hp
            gi_wp2
            gi_quiet (fail)
            have hg1 : wr.grownBy ((wr.alloc (.cells #[.int .i64 src, .int .i64 to, .int .i64 ((i : Int) - 1)] 112)).drewN nq) none := grown_alloc_drewN wr _ nq
            have hkb : KeepB wv fv g b wr ((wr.alloc (.cells #[.int .i64 src, .int .i64 to, .int .i64 ((i : Int) - 1)] 112)).drewN nq) :=
              ⟨hg1.size, hg1.block _ l1 (by simp), hg1.block _ l2 (by simp), hg1.block _ l3 (by simp), hg1.block _ hEs.map.lt (by simp)⟩
            gi_wp2
            refine ⟨fun _ h => (by cases h), ?_⟩
            gi_wp2
            go_roundw
            case rel =>
              refine ⟨i + 1, by omega, by simp, pre, hJ _ _ _ none hJs hg1 (by simp), hEs.keep hkb, ?_, by omega, Nat.le_trans hsz hkb.size⟩
              exact allArcs_skip HA.out (by omega)
            case measure => simp [intOf]; omega
        · have hil' : decide ((i : Int) - 1 < (len : Int)) = false := by simp; omega
          have HA := Lib.hid hAll
          clear hAll
          gi_wp2
          go_roundw
          case rel => exact ⟨to + 1, by omega, by simp, pre, hJs, hEs, allArcs_row (by omega) HA.out, by omega, hsz⟩
          case measure => simp [intOf]; omega
    · have hlt' : decide ((to : Int) < 13) = false := by simp; omega
      have HA := Lib.hid hAll
      clear hAll
      gi_wp2
      go_end0
      exact ⟨⟨_, rfl⟩, .inl ⟨pre, fun p _ => HA.out p (.inl (by have := p.2; omega)), hJs⟩⟩
end Go.Proofs.Ytkloaeaepjoijaa

/-
  of, agrees: the dips of a night.
-/
import Derived.Test.YtefhdcecbmgljaaAll
set_option linter.all false
namespace Go.Proofs.Ytefhdcecbmgljaa
open Go.RowKit Go.WalkArith Go.Shelf
attribute [local go_sem] Oper.semAt_some

theorem of_any (A : Option Addr) (n cp : Nat) (night : Int) (w : World) :
    Calls Try.prog 119 #[.slice A n cp, .int .i64 night] w fun e w' => e = .returned (.func (.func 123) #[] #[.pointer (some ⟨w.heap.size, 0, none⟩), .pointer (some ⟨w.heap.size + 1, 0, none⟩)]) ∧
      w' = (w.alloc (.cells #[.slice A n cp] 60)).alloc (.cells #[.int .i64 night] 3) := by
  go_enter Try.func119, Try.ntmps119
  go_wp2
  go_ret
  exact ⟨rfl, rfl⟩

/-- What the iterator reads: its two captured variables, the dips. -/
structure OfEnv (W : World) (B1 B2 : Nat) (A : Option Addr) (cp : Nat) (night : Int) (dips : List Dp) : Prop where
  c1 : W.cell? ⟨B1, 0, none⟩ = some (.slice A dips.length cp)
  c2 : W.cell? ⟨B2, 0, none⟩ = some (.int .i64 night)
  dp : DpsAt W A dips
structure KeepO (B1 B2 : Nat) (A : Option Addr) (dips : List Dp) (W W' : World) : Prop where
  size : W.heap.size ≤ W'.heap.size
  k1 : W'.heap[B1]? = W.heap[B1]?
  k2 : W'.heap[B2]? = W.heap[B2]?
  k3 : dips ≠ [] → ∀ b o t, A = some ⟨b, o, t⟩ → W'.heap[b]? = W.heap[b]?
theorem KeepO.refl (B1 B2 : Nat) (A : Option Addr) (dips : List Dp) (W : World) : KeepO B1 B2 A dips W W := ⟨Nat.le_refl _, rfl, rfl, fun _ _ _ _ _ => rfl⟩
theorem KeepO.trans {B1 B2 : Nat} {A : Option Addr} {dips : List Dp} {W W' W'' : World} (h : KeepO B1 B2 A dips W W') (k : KeepO B1 B2 A dips W' W'') : KeepO B1 B2 A dips W W'' :=
  ⟨Nat.le_trans h.size k.size, k.k1.trans h.k1, k.k2.trans h.k2, fun hd b o t e => (k.k3 hd b o t e).trans (h.k3 hd b o t e)⟩
theorem DpsAt.same {W W' : World} {A : Option Addr} {l : List Dp} (h : DpsAt W A l) (hk : l ≠ [] → ∀ b o t, A = some ⟨b, o, t⟩ → W'.heap[b]? = W.heap[b]?) : DpsAt W' A l := by
  by_cases hl : l = []
  · exact .inl hl
  · obtain ⟨b, o, h1, h2⟩ := h.resolve_left hl
    refine .inr ⟨b, o, h1, fun i hi => ?_⟩
    obtain ⟨a0, a1, a2⟩ := h2 i hi
    have hc := fun j => World.cell?_of_block (a := ⟨b, j, none⟩) (hk hl b o none h1)
    exact ⟨(hc _).trans a0, (hc _).trans a1, (hc _).trans a2⟩
theorem OfEnv.keep {W W' : World} {B1 B2 cp : Nat} {A : Option Addr} {night : Int} {dips : List Dp} (h : OfEnv W B1 B2 A cp night dips) (k : KeepO B1 B2 A dips W W') : OfEnv W' B1 B2 A cp night dips :=
  ⟨(World.cell?_of_block k.k1).trans h.c1, (World.cell?_of_block k.k2).trans h.c2, h.dp.same k.k3⟩
theorem OfEnv.keep_below {W W' : World} {B1 B2 cp B : Nat} {A : Option Addr} {night : Int} {dips : List Dp} (h : OfEnv W B1 B2 A cp night dips) (hb : Below B W W') (hB : W.heap.size ≤ B) : OfEnv W' B1 B2 A cp night dips :=
  ⟨(hb.cell (p := ⟨B1, 0, none⟩) (Nat.lt_of_lt_of_le (World.block_lt_of_cell? W _ h.c1) hB)).trans h.c1, (hb.cell (p := ⟨B2, 0, none⟩) (Nat.lt_of_lt_of_le (World.block_lt_of_cell? W _ h.c2) hB)).trans h.c2, h.dp.keep hb hB⟩

/-- A dip of the night. -/
abbrev DpOf (dips : List Dp) (night : Int) := { d : Dp // d ∈ dips ∧ d.n = night }
abbrev dpEncs (dips : List Dp) (night : Int) (x : DpOf dips night) : Array Value := #[.agg #[.int .i64 x.1.n, .int .i64 x.1.lo, .int .i64 x.1.hi]]
def AllDips (dips : List Dp) (night : Int) (k : Nat) (xs : List (DpOf dips night)) : Prop :=
  ∀ p : DpOf dips night, (∃ i, i < k ∧ dips[i]? = some p.1) → p ∈ xs
theorem allDips_skip {dips : List Dp} {night : Int} {k : Nat} {xs : List (DpOf dips night)} (h : AllDips dips night k xs) (hk : k < dips.length) (hn : dips[k].n ≠ night) : AllDips dips night (k + 1) xs := by
  rintro p ⟨i, hi, he⟩
  by_cases e : i = k
  · subst e
    rw [List.getElem?_eq_getElem hk] at he
    injection he with he
    rw [he] at hn
    exact absurd p.2.2 hn
  · exact h p ⟨i, by omega, he⟩
theorem allDips_snoc {dips : List Dp} {night : Int} {k : Nat} {xs : List (DpOf dips night)} (h : AllDips dips night k xs) (hk : k < dips.length) {x : DpOf dips night} (hx : x.1 = dips[k]) : AllDips dips night (k + 1) (xs ++ [x]) := by
  rintro p ⟨i, hi, he⟩
  by_cases e : i = k
  · subst e
    rw [List.getElem?_eq_getElem hk] at he
    injection he with he
    have : p = x := Subtype.ext (he.symm.trans hx.symm)
    subst this; simp
  · exact List.mem_append.2 (.inl (h p ⟨i, by omega, he⟩))
theorem allDips_all {dips : List Dp} {night : Int} {xs : List (DpOf dips night)} (h : AllDips dips night dips.length xs) (p : DpOf dips night) : p ∈ xs := by
  obtain ⟨i, hi, he⟩ := List.mem_iff_getElem.1 p.2.1
  exact h p ⟨i, hi, by rw [List.getElem?_eq_getElem hi, he]⟩

set_option maxRecDepth 100000 in
set_option maxHeartbeats 4000000 in
theorem of_stops (n : Nat) (B1 B2 : Nat) (A : Option Addr) (cp : Nat) (night : Int) (dips : List Dp) (w : World) (hl : dips.length ≤ 100) (hE : OfEnv w B1 B2 A cp night dips) :
    SeqStopsK Fence.wide n Try.prog 123 #[.pointer (some ⟨B1, 0, none⟩), .pointer (some ⟨B2, 0, none⟩)] (dpEncs dips night) (KeepO B1 B2 A dips) (fun xs => AllDips dips night dips.length xs) (fun _ => True) 2000 w :=
  fun l J Jx W hW hJ hJx hY h0 => by
  have hE1 : OfEnv W B1 B2 A cp night dips := hE.keep_below hW (Nat.le_refl _)
  have c1 := hE1.c1
  clear hE hW
  refine callsIn_of_wp Try.func123 rfl trivial ?_ rfl
  simp only [Try.ntmps123, List.size_toArray, List.length_cons, List.length_nil, Nat.reduceAdd, Nat.reduceSub, Array.replicate_succ, Array.replicate_zero, List.push_toArray, List.append_toArray, List.nil_append, List.cons_append]
  gi_wp2
  gi_loopw [8] (fun t wr => ∃ k : Nat, k ≤ dips.length ∧ t = .int .i64 k ∧ ∃ pre, J pre wr ∧ OfEnv wr B1 B2 A cp night dips ∧ AllDips dips night k pre ∧ pre.length ≤ k ∧ W.heap.size ≤ wr.heap.size)
    (fun t _ => dips.length - (intOf t).toNat)
  case atStart =>
    exact ⟨0, by omega, rfl, [], h0, hE1, fun p hp => by obtain ⟨i, hi, _⟩ := hp; omega, by simp, Nat.le_refl _⟩
  case round =>
    clear c1 hE1 h0
    obtain ⟨k, hk, rfl, pre, hJs, hEs, hAll, hpl, hsz⟩ := hrel
    by_cases hlt : k < dips.length
    · have hlt' : decide ((k : Int) < (dips.length : Int)) = true := by simp; omega
      obtain ⟨b, o, rfl, d0, d1, d2⟩ := hEs.dp.at hlt
      have c2 := hEs.c2
      have hEl := Lib.hid hEs
      have HA := Lib.hid hAll
      have l1 := World.block_lt_of_cell? wr _ hEs.c1
      have l2 := World.block_lt_of_cell? wr _ hEs.c2
      have l3 := World.block_lt_of_cell? wr _ d0
      clear hAll hEs
      have i1 : (0 : Int) ≤ (k : Int) := by omega
      have i2 : (k : Int) < (dips.length : Int) := by omega
      have hg1 : wr.grownBy (wr.alloc (.cells #[.int .i64 dips[k].n, .int .i64 dips[k].lo, .int .i64 dips[k].hi] 103)) none := World.grownBy_alloc wr _ none
      have hkb : KeepO B1 B2 (some ⟨b, o, none⟩) dips wr (wr.alloc (.cells #[.int .i64 dips[k].n, .int .i64 dips[k].lo, .int .i64 dips[k].hi] 103)) :=
        ⟨hg1.size, hg1.block _ l1 (by simp), hg1.block _ l2 (by simp), fun _ b' o' t' e => by cases e; exact hg1.block _ l3 (by simp)⟩
      by_cases hn : dips[k].n = night
      · have hnb : (dips[k].n == night) = true := beq_iff_eq.2 hn
        obtain ⟨x, hx⟩ : ∃ x : DpOf dips night, x.1 = dips[k] := ⟨⟨dips[k], List.getElem_mem hlt, hn⟩, rfl⟩
        obtain ⟨fn, tmps, assign, body, hy, hR⟩ := hY pre x _ (hJ _ _ _ none hJs hg1 (by simp)) (by omega)
        dsimp only [dpEncs] at hy
        rw [hx] at hy
        have HX := Lib.hid hx
        have HN := Lib.hid hn
        clear hx hn
        gi_wp2
        refine ⟨fun h => (by simp [Fence.wide] at h), hR.mono ?_⟩
        rintro e W3 (⟨rfl, hJ3, hk3⟩ | ⟨rfl, hJx3⟩)
        · gi_wp2
          go_roundw
          case rel =>
            exact ⟨k + 1, by omega, by simp, pre ++ [x], hJ3, hEl.out.keep (hkb.trans hk3), allDips_snoc HA.out hlt HX.out, by simp; omega, Nat.le_trans hsz (hkb.trans hk3).size⟩
          case measure => simp [intOf]; omega
        · gi_wp2
          refine bodyPost_ret (results_none rfl _ _ _) rfl ?_
          exact ⟨⟨_, rfl⟩, .inr ⟨_, trivial, hJx3⟩⟩
      · have hnb : (dips[k].n == night) = false := beq_eq_false_iff_ne.2 hn
        have HN := Lib.hid hn
        clear hn
        gi_wp2
        refine ⟨fun _ h => (by cases h), ?_⟩
        gi_wp2
        go_roundw
        case rel =>
          exact ⟨k + 1, by omega, by simp, pre, hJ _ _ _ none hJs hg1 (by simp), hEl.out.keep hkb, allDips_skip HA.out hlt HN.out, by omega, Nat.le_trans hsz hkb.size⟩
        case measure => simp [intOf]; omega
    · have hlt' : decide ((k : Int) < (dips.length : Int)) = false := by simp; omega
      have HA := Lib.hid hAll
      obtain rfl : k = dips.length := by omega
      clear hAll
      gi_wp2
      go_end0
      exact ⟨⟨_, rfl⟩, .inl ⟨pre, HA.out, hJs⟩⟩
end Go.Proofs.Ytefhdcecbmgljaa

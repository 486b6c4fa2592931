/-
  The recursive closure of Prove: what can still be reached.
-/
import Derived.Test.YtkloaeaepjoijaaWalk
set_option linter.all false
namespace Go.Proofs.Ytkloaeaepjoijaa
open Go.RowKit Go.WalkArith Go.Shelf
attribute [local go_sem] Oper.semAt_some

/-- What the closure captures, and what lies behind it. -/
structure PEnv (W : World) (sb wv kv g b len : Nat) (s : Int → Bool) (f : Int → Int → Int → Int) : Prop where
  seen : SeenAt W sb s
  c1 : W.cell? ⟨wv, 0, none⟩ = some (.pointer (some ⟨g, 0, none⟩))
  c2 : W.cell? ⟨kv, 0, none⟩ = some (.func (.func 94) #[] #[.pointer (some ⟨wv, 0, none⟩), .pointer (some ⟨sb, 0, none⟩), .pointer (some ⟨kv, 0, none⟩)])
  sl : ∃ A cap, W.cell? ⟨g, 0, none⟩ = some (.slice A len cap)
  mp : W.cell? ⟨g, 3, none⟩ = some (.map (some b))
  map : ArcMap W b f

section
variable {W W' : World} {sb wv kv g b len : Nat} {s : Int → Bool} {f : Int → Int → Int → Int}
theorem PEnv.lts (h : PEnv W sb wv kv g b len s f) : sb < W.heap.size ∧ wv < W.heap.size ∧ kv < W.heap.size ∧ g < W.heap.size ∧ b < W.heap.size :=
  ⟨h.seen.lt, World.block_lt_of_cell? W _ h.c1, World.block_lt_of_cell? W _ h.c2, World.block_lt_of_cell? W _ h.mp, h.map.lt⟩
theorem PEnv.nes (h : PEnv W sb wv kv g b len s f) : (wv ≠ sb ∧ wv ≠ b) ∧ (kv ≠ sb ∧ kv ≠ b) ∧ (g ≠ sb ∧ g ≠ b) ∧ sb ≠ b := by
  have hs := h.seen.cell (i := 0) (by omega)
  have hm := cell_map_none h.map
  have h1 := h.c1
  have h2 := h.c2
  have h3 := h.mp
  have hs3 := h.seen.cell (i := 3) (by omega)
  refine ⟨⟨?_, ?_⟩, ⟨?_, ?_⟩, ⟨?_, ?_⟩, ?_⟩
  · rintro rfl; rw [hs] at h1; cases h1
  · rintro rfl; rw [hm] at h1; cases h1
  · rintro rfl; rw [hs] at h2; cases h2
  · rintro rfl; rw [hm] at h2; cases h2
  · rintro rfl; rw [hs3] at h3; cases h3
  · rintro rfl; rw [hm] at h3; cases h3
  · rintro rfl; rw [hm] at hs; cases hs
theorem PEnv.keep {s' : Int → Bool} (h : PEnv W sb wv kv g b len s f) (k : WKeep sb b W W') (hs : SeenAt W' sb s') (hm : W'.heap[b]? = W.heap[b]?) : PEnv W' sb wv kv g b len s' f := by
  obtain ⟨⟨n1, n2⟩, ⟨n3, n4⟩, ⟨n5, n6⟩, _⟩ := h.nes
  obtain ⟨_, l1, l2, l3, _⟩ := h.lts
  obtain ⟨A, cap, hsl⟩ := h.sl
  exact ⟨hs, (World.cell?_of_block (k.block _ l1 n1 n2)).trans h.c1, (World.cell?_of_block (k.block _ l2 n3 n4)).trans h.c2,
    ⟨A, cap, (World.cell?_of_block (k.block _ l3 n5 n6)).trans hsl⟩, (World.cell?_of_block (k.block _ l3 n5 n6)).trans h.mp, h.map.of_block hm⟩
end

/-- A set of nodes out of which nothing can flow. -/
def Shut (len : Nat) (f : Int → Int → Int → Int) (K : Int → Bool) : Prop :=
  ∀ u v i : Int, 0 ≤ u → u < 13 → 0 ≤ v → v < 13 → -1 ≤ i → i < (len : Int) → K u = true → 0 < f u v i → K v = true

/-- How the closure ends, the node itself seen already. -/
def PPost (sb b len : Nat) (src : Nat) (s : Int → Bool) (f : Int → Int → Int → Int) (W : World) (e : Ending) (W' : World) : Prop :=
  e = .returned (.tuple #[]) ∧ WKeep sb b W W' ∧ W'.heap[b]? = W.heap[b]? ∧ ∃ s', SeenAt W' sb s' ∧ (∀ v, s v = true → s' v = true) ∧
    (∀ u v i : Int, 0 ≤ u → u < 13 → s' u = true → (s u = false ∨ u = src) → 0 ≤ v → v < 13 → -1 ≤ i → i < (len : Int) → 0 < f u v i → s' v = true) ∧
    ∀ K, Shut len f K → (∀ v : Int, 0 ≤ v → v < 13 → s v = true → K v = true) → ∀ v : Int, 0 ≤ v → v < 13 → s' v = true → K v = true

/-- Between two rounds. -/
def PInv (sb b len : Nat) (src : Nat) (s : Int → Bool) (f : Int → Int → Int → Int) (W0 : World) (pre : List (Arc len src f)) (W : World) : Prop :=
  WKeep sb b W0 W ∧ W.heap[b]? = W0.heap[b]? ∧ ∃ sc, SeenAt W sb sc ∧ (∀ v, s v = true → sc v = true) ∧
    (∀ u v i : Int, 0 ≤ u → u < 13 → sc u = true → s u = false → 0 ≤ v → v < 13 → -1 ≤ i → i < (len : Int) → 0 < f u v i → sc v = true) ∧
    (∀ K, Shut len f K → (∀ v : Int, 0 ≤ v → v < 13 → s v = true → K v = true) → ∀ v : Int, 0 ≤ v → v < 13 → sc v = true → K v = true) ∧
    ∀ x ∈ pre, sc x.1.1 = true

theorem PInv.own {sb b len src : Nat} {s : Int → Bool} {f : Int → Int → Int → Int} {W0 : World} (hb : b < W0.heap.size) (hs : sb < W0.heap.size) :
    OwnFrom W0.heap.size (PInv sb b len src s f W0) := by
  intro pre W W' row hi hg hr
  obtain ⟨hk, hm, sc, hsc, h1⟩ := hi
  have hge : ∀ r, row = some r → W0.heap.size ≤ r := fun r e => (hr r e).1
  have hbl : ∀ k, k < W0.heap.size → W'.heap[k]? = W.heap[k]? := fun k hk' => hg.block k (Nat.lt_of_lt_of_le hk' hk.size) (fun e => by have := hge k e.symm; omega)
  exact ⟨hk.grown (B := 0) hg hge, (hbl b hb).trans hm, sc, hsc.of_block (hbl sb hs), h1⟩

set_option maxRecDepth 100000 in
set_option maxHeartbeats 1000000 in
theorem walk94_any (sb wv kv g b len : Nat) (hlen : len ≤ 100) : ∀ (k : Nat) (src : Nat) (s : Int → Bool) (f : Int → Int → Int → Int) (w : World), unseen s < k → src ≤ 12 → s src = true → PEnv w sb wv kv g b len s f →
    Calls Try.prog 94 #[.int .i64 (src : Int), .pointer (some ⟨wv, 0, none⟩), .pointer (some ⟨sb, 0, none⟩), .pointer (some ⟨kv, 0, none⟩)] w (PPost sb b len src s f w) := by
  intro k
  induction k with
  | zero =>
    intro src s f w hu
    omega
  | succ k ih =>
    intro src s f w hu hsrc hss hE
    have IH := Lib.hid ih
    clear ih
    have HU := Lib.hid hu
    clear hu
    have HS := Lib.hid hss
    clear hss
    have lts := hE.lts
    have nes := hE.nes
    obtain ⟨l1, l2, l3, l4, l5⟩ := lts
    have c1 := hE.c1
    refine callsIn_wide (n := 1) |>.1 ?_
    refine callsIn_of_wp_marks Try.func94 rfl trivial ?_
    simp only [Try.ntmps94, List.size_toArray, List.length_cons, List.length_nil, Nat.reduceAdd, Nat.reduceSub, Array.replicate_succ, Array.replicate_zero, List.push_toArray, List.append_toArray, List.nil_append, List.cons_append]
    gi_wp2_with (refine ⟨trivial, ?_⟩; gi_at_call 95; refine (callsIn_wide.2 (arcs_any _ _ _)).mono ?_; rintro e w' ⟨rfl, rfl⟩)
    have bW := ((Boxed.new w 136 (.pointer (some ⟨g, 0, none⟩))).alloc (.cells #[.int .i64 (src : Int)] 3))
    have bF := (Boxed.new (w.alloc (.cells #[.pointer (some ⟨g, 0, none⟩)] 136)) 3 (.int .i64 (src : Int)))
    simp only [World.size_alloc] at bF
    have hBel : Below w.heap.size w ((w.alloc (.cells #[.pointer (some ⟨g, 0, none⟩)] 136)).alloc (.cells #[.int .i64 (src : Int)] 3)) := ((Below.refl _ _).alloc (by simp) _).alloc (by simp) _
    have hsz : ((w.alloc (.cells #[.pointer (some ⟨g, 0, none⟩)] 136)).alloc (.cells #[.int .i64 (src : Int)] 3)).heap.size = w.heap.size + 2 := by simp
    obtain ⟨W0, hW0⟩ : ∃ W0, (w.alloc (.cells #[.pointer (some ⟨g, 0, none⟩)] 136)).alloc (.cells #[.int .i64 (src : Int)] 3) = W0 := ⟨_, rfl⟩
    rw [hW0] at bW bF hBel hsz ⊢
    clear hW0
    have hb0 : W0.heap[b]? = w.heap[b]? := hBel.block _ l5
    have hKW : WKeep sb b w W0 := WKeep.of_below hBel (Nat.le_refl _)
    have hE0 : PEnv W0 sb wv kv g b len s f := hE.keep hKW (hE.seen.of_block (hBel.block _ l1)) hb0
    clear hBel c1
    have hEA : ArcsEnv W0 w.heap.size (w.heap.size + 1) g b len src f := ⟨bW.cell, bF.cell, hE0.sl, hE0.mp, hE0.map⟩
    have lts0 := hE0.lts
    refine wpIn_rangeFunc_ownH rfl (by omega) (gf := 120) (lb := #[.pointer (some ⟨w.heap.size, 0, none⟩), .pointer (some ⟨w.heap.size + 1, 0, none⟩)]) rfl trivial (enters_of Try.func120 (by kernel_rfl) rfl)
      (arcs_stops (1 - 1) w.heap.size (w.heap.size + 1) g b len src f W0 hlen (by omega) (by omega) hEA) KeepB.trans
      (fun W l o o' hl h _ _ => ?kb) (Below.refl _ _) (fun _ => rfl)
      (PInv sb b len src s f W0)
      (fun _ _ _ => False)
      (PInv.own lts0.2.2.2.2 lts0.1)
      (fun c s W W' row hs hg hr => hs.elim)
      ?start
      (fun x a' W => ∃ Bx, w.heap.size + 2 ≤ Bx ∧ W.heap[Bx]? = some (.cells #[.int .i64 (src : Int), .int .i64 x.1.1, .int .i64 x.1.2] 112 (0, 0)) ∧ a' = { tmps := #[.int .i64 (src : Int), .pointer (some ⟨wv, 0, none⟩), .pointer (some ⟨sb, 0, none⟩), .pointer (some ⟨kv, 0, none⟩), undef, .pointer (some ⟨Bx, 0, none⟩), .pointer (some ⟨g, 0, none⟩), .int .i64 (src : Int), .func (.func 120) #[] #[.pointer (some ⟨w.heap.size, 0, none⟩), .pointer (some ⟨w.heap.size + 1, 0, none⟩)], .agg #[.int .i64 (src : Int), .int .i64 x.1.1, .int .i64 x.1.2], .int .i64 (f src x.1.1 x.1.2), undef, undef, undef, undef, undef, undef, undef, undef, undef, undef, undef, undef], defers := [] })
      ?hAx ?assign ?body ?done ?stop
    case kb =>
      have hne : ∀ k, k < w.heap.size + 2 → (W.putObj l o').heap[k]? = W.heap[k]? := fun k hk => World.putObj_heap_other (by omega)
      exact ⟨by simp [World.putObj], hne _ (by omega), hne _ (by omega), hne _ (by omega), hne _ (by omega)⟩
    case start =>
      exact ⟨WKeep.refl _ _ _, rfl, s, hE0.seen, fun v h => h, (fun u v i _ _ h1 h2 => by rw [h1] at h2; cases h2), (fun K _ h => h), (fun x hx => by cases hx)⟩
    case hAx =>
      intro x a' _ X Y row hs hg hr
      obtain ⟨Bx, h1, h2, h3⟩ := hs
      refine ⟨Bx, h1, (hg.block Bx (Array.getElem?_eq_some_iff.1 h2).1 (fun e => ?_)).trans h2, h3⟩
      obtain ⟨_, o, ho, hc⟩ := hr Bx e.symm
      rw [h2] at ho
      cases ho
      cases hc
    case assign =>
      rintro l pre x W K hi hK
      gi_wp2
      have hg1 : W.grownBy (W.alloc (.cells #[.int .i64 (src : Int), .int .i64 x.1.1, .int .i64 x.1.2] 112)) none := World.grownBy_alloc W _ none
      have hsW := hi.1.size
      refine hK _ _ ((KeepsOthers.alloc _ _).from _) ⟨hg1.size, hg1.block _ (by omega) (by simp), hg1.block _ (by omega) (by simp), hg1.block _ (by omega) (by simp), hg1.block _ (by omega) (by simp)⟩
        (PInv.own lts0.2.2.2.2 lts0.1 _ _ _ none hi hg1 (by simp)) ⟨W.heap.size, by omega, heap_alloc_new W _, rfl⟩
    case body =>
      rintro l pre ⟨⟨to', i'⟩, hx0, hx1, hx2, hx3, hx4⟩ a' W hl hr hi ⟨Bx, hBx, bX, rfl⟩ hlenN
      dsimp only at hx0 hx1 hx2 hx3 hx4 bX ⊢
      obtain ⟨hKW1, hmW, sc, hsc, hs1, hs4, hsK, hs5⟩ := hi
      obtain ⟨to, rfl⟩ := Int.eq_ofNat_of_zero_le hx0
      have cx1 : W.cell? ⟨Bx, 1, none⟩ = some (.int .i64 (to : Int)) := by simp [World.cell?, bX]
      have cseen := hsc.cell (i := to) (by omega)
      have fseen := hsc.frozen to
      have H5 := Lib.hid hs5
      have H1 := Lib.hid hs1
      have H4 := Lib.hid hs4
      have HK := Lib.hid hsK
      clear hs5 hs1 hs4 hsK
      cases hsee : sc to with
      | true =>
        rw [hsee] at cseen
        gi_wp2
        exact ⟨KeepsFrom.refl _ _, KeepB.refl _ _ _ _ _, hKW1, hmW, sc, hsc, H1.out, H4.out, HK.out, fun y hy => by
          rcases List.mem_append.1 hy with h | h
          · exact H5.out y h
          · rw [List.mem_singleton.1 h]; exact hsee⟩
      | false =>
        rw [hsee] at cseen
        have hEW : PEnv W sb wv kv g b len sc f := hE0.keep hKW1 hsc hmW
        have hszW := hKW1.size
        have hl1 : Bx < W.heap.size := (Array.getElem?_eq_some_iff.1 bX).1
        have hW2k : WKeep sb b W (W.setCell ⟨sb, to, none⟩ (.bool true)) := ⟨rfl, rfl, rfl, by simp, fun k hk h1 h2 => Below.heap_setCell _ _ _ _ h1⟩
        have hb2 : (W.setCell ⟨sb, to, none⟩ (.bool true)).heap[b]? = W.heap[b]? := Below.heap_setCell _ _ _ _ (fun h => nes.2.2.2 h.symm)
        have hE2 : PEnv (W.setCell ⟨sb, to, none⟩ (.bool true)) sb wv kv g b len (mark sc to) f := hEW.keep hW2k (hsc.set (v := to) (by omega)) hb2
        have ck := hE2.c2
        have hX2 : (W.setCell ⟨sb, to, none⟩ (.bool true)).heap[Bx]? = W.heap[Bx]? := Below.heap_setCell _ _ _ _ (by show Bx ≠ sb; omega)
        have cx2 : (W.setCell ⟨sb, to, none⟩ (.bool true)).cell? ⟨Bx, 1, none⟩ = some (.int .i64 (to : Int)) := by simp only [World.cell?, hX2, bX]; rfl
        have hu : unseen (mark sc to) < k := by
          have h1 := unseen_lt (s := sc) (s' := mark sc to) (fun v h => mark_mono h) (v := to) (by omega) hsee (mark_self _ _)
          have h2 : unseen sc ≤ unseen s := filter_length_le _ fun x _ hx => by
            cases e : s ((x : Nat) : Int) with
            | false => rfl
            | true => rw [H1.out _ e] at hx; cases hx
          have := HU.out
          omega
        have hcall := Lib.hid (IH.out to (mark sc to) f _ hu (by omega) (mark_self _ _) hE2)
        gi_wp2_with fail
        refine ⟨trivial, rfl, ?_⟩
        refine (CallsIn.inRound l (callsIn_wide.2 hcall.out)).mono ?_
        rintro e w3 ⟨rfl, hk3, hm3, s3, hs3, h31, h32, h33⟩
        have hk := hW2k.trans hk3
        have H31 := Lib.hid h31
        have H32 := Lib.hid h32
        have H33 := Lib.hid h33
        have hbm := hm3.trans hb2
        clear h31 h32 h33 hcall ck cx1 cx2 cseen fseen
        gi_wp2
        refine ⟨⟨hk.size, fun j o hj ho _ => (hk.block j (Array.getElem?_eq_some_iff.1 ho).1 (by omega) (by omega)).trans ho⟩, ⟨hk.size, ?_, ?_, ?_, hbm⟩, hKW1.trans hk, hbm.trans hmW, s3, hs3, fun u hu => H31.out _ (mark_mono (H1.out u hu)), ?_, ?_, ?_⟩
        · exact hk.block _ (by omega) (by omega) (by omega)
        · exact hk.block _ (by omega) (by omega) (by omega)
        · exact hk.block _ (by omega) (by omega) (by omega)
        · intro u y i h1 h2 h3 h4 h5 h6 h7 h8 h9
          by_cases hut : u = (to : Int)
          · exact H32.out u y i h1 h2 h3 (.inr hut) h5 h6 h7 h8 h9
          · cases hu : sc u with
            | true => exact H31.out _ (mark_mono (H4.out u y i h1 h2 hu h4 h5 h6 h7 h8 h9))
            | false => exact H32.out u y i h1 h2 h3 (.inl (by unfold mark; rw [if_neg hut]; exact hu)) h5 h6 h7 h8 h9
        · intro K hK0 hKs
          refine H33.out K hK0 fun v hv0 hv1 hv => ?_
          unfold mark at hv
          split at hv
          · rename_i e
            rw [e]
            exact hK0 src to i' (by omega) (by omega) (by omega) hx1 hx2 hx3 (hKs src (by omega) (by omega) HS.out) hx4
          · exact HK.out K hK0 hKs v hv0 hv1 hv
        · intro y hy
          rcases List.mem_append.1 hy with h | h
          · exact H31.out _ (mark_mono (H5.out y h))
          · rw [List.mem_singleton.1 h]; exact H31.out _ (mark_self _ _)
    case done =>
      rintro D xs W hD hAll ⟨hk1, hm1, sc, hsc, hs1, hs4, hsK, hs5⟩ hKD
      have H1 := Lib.hid hs1
      have H5 := Lib.hid hs5
      have HAll := Lib.hid hAll
      have H4 := Lib.hid hs4
      have HK := Lib.hid hsK
      clear hs1 hs5 hAll hs4 hsK
      gi_wp2
      refine ⟨by simp, .inl ⟨_, _, rfl, run_takeDeferred hKD, ?_⟩⟩
      have hput : ∀ j, j ≠ D → (W.putObj D (.deferred none)).heap[j]? = W.heap[j]? := fun j hj => World.putObj_heap_other hj
      have hsz9 : (W.putObj D (.deferred none)).heap.size = W.heap.size := by simp [World.putObj]
      have hos9 : (W.putObj D (.deferred none)).os = W.os ∧ (W.putObj D (.deferred none)).tape = W.tape ∧ (W.putObj D (.deferred none)).output = W.output := ⟨rfl, rfl, rfl⟩
      generalize W.putObj D (.deferred none) = W9 at *
      have hkw := hKW.trans hk1
      refine ⟨.tuple #[], by simp [results, Try.results94, go_sem], rfl, ⟨hos9.1.trans hkw.os, hos9.2.1.trans hkw.tape, hos9.2.2.trans hkw.output, by rw [hsz9]; exact hkw.size, fun j hj h1 h2 => (hput j (by omega)).trans (hkw.block j hj h1 h2)⟩, ((hput b (by omega)).trans hm1).trans hb0, sc, hsc.of_block (hput sb (by omega)), H1.out, ?_, HK.out⟩
      intro u v i h1 h2 h3 h4 h5 h6 h7 h8 h9
      by_cases hus : u = src
      · subst hus
        exact H5.out ⟨(v, i), h5, h6, h7, h8, h9⟩ (HAll.out ⟨(v, i), h5, h6, h7, h8, h9⟩ (.inl h6))
      · exact H4.out u v i h1 h2 h3 (h4.resolve_right hus) h5 h6 h7 h8 h9
    case stop => rintro D c xs W hD _ h _; exact h.elim
end Go.Proofs.Ytkloaeaepjoijaa

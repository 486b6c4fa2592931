/-
  agrees.
-/
import Derived.Test.YtefhdcecbmgljaaAgrees
set_option linter.all false
namespace Go.Proofs.Ytefhdcecbmgljaa
open Go.RowKit Go.WalkArith Go.Shelf
attribute [local go_sem] Oper.semAt_some

theorem agN_iff {dips : List Dp} {i : Nat} {o : Int} : agN dips i o = true ↔ ∀ d ∈ dips, d.n = (i : Int) → inB o d.lo d.hi = true := by
  unfold agN
  rw [List.all_eq_true]
  constructor
  · intro h d hd hn
    have := h d hd
    simpa [hn] using this
  · intro h d hd
    by_cases e : d.n = (i : Int)
    · rw [h d hd e]; simp
    · simp [e]

/-- Between two rounds. -/
def AInv (dips : List Dp) (night oil : Int) (w : World) (W0 : World) (pre : List (DpOf dips night)) (W : World) : Prop :=
  Below W0.heap.size W0 W ∧ ∀ x ∈ pre, inB oil x.1.lo x.1.hi = true
theorem AInv.own {dips : List Dp} {night oil : Int} {w W0 : World} : OwnFrom W0.heap.size (AInv dips night oil w W0) := by
  intro pre W W' row hi hg hr
  obtain ⟨hk, h1⟩ := hi
  have hge : ∀ r, row = some r → W0.heap.size ≤ r := fun r e => (hr r e).1
  exact ⟨hk.grown hg hk.size (fun k e => hge k e), h1⟩
/-- Where it stopped. -/
def AOut (dips : List Dp) (night : Int) (oil : Int) (w : World) (rb : Nat) (W : World) : Prop :=
  Below w.heap.size w W ∧ Boxed W rb 4 (.bool false) ∧ ∃ d ∈ dips, d.n = night ∧ inB oil d.lo d.hi = false
theorem AOut.own {β : Type} {dips : List Dp} {night oil : Int} {w : World} {rb B : Nat} (hB : w.heap.size ≤ B) :
    OwnFrom B (fun (_ : β) W => AOut dips night oil w rb W) := by
  intro pre W W' row hi hg hr
  obtain ⟨hk, h1, h2⟩ := hi
  have hge : ∀ r, row = some r → w.heap.size ≤ r := fun r e => by have := (hr r e).1; omega
  exact ⟨hk.grown hg hk.size (fun k e => hge k e), boxed_own rb 4 (fun (_ : Unit) => Value.bool false) () W W' row h1 hg (fun r e => (hr r e).2), h2⟩

set_option maxRecDepth 100000 in
set_option maxHeartbeats 4000000 in
theorem agrees_any (A : Option Addr) (cp : Nat) (dips : List Dp) (i : Nat) (oil : Int) (w : World) (hl : dips.length ≤ 100) (hA : DpsAt w A dips) :
    Calls Try.prog 104 #[.slice A dips.length cp, .int .i64 i, .int .i64 oil] w fun e w' => e = .returned (.bool (agN dips i oil)) ∧ Below w.heap.size w w' := by
  have bO := ((Boxed.new w 3 (.int .i64 oil)).alloc (.cells #[.bool false] 4)).alloc (.cells #[.slice A dips.length cp] 60) |>.alloc (.cells #[.int .i64 (i : Int)] 3)
  have bR := ((Boxed.new (w.alloc (.cells #[.int .i64 oil] 3)) 4 (.bool false)).alloc (.cells #[.slice A dips.length cp] 60)).alloc (.cells #[.int .i64 (i : Int)] 3)
  have bD := (Boxed.new ((w.alloc (.cells #[.int .i64 oil] 3)).alloc (.cells #[.bool false] 4)) 60 (.slice A dips.length cp)).alloc (.cells #[.int .i64 (i : Int)] 3)
  have bN := Boxed.new (((w.alloc (.cells #[.int .i64 oil] 3)).alloc (.cells #[.bool false] 4)).alloc (.cells #[.slice A dips.length cp] 60)) 3 (.int .i64 (i : Int))
  simp only [World.size_alloc] at bO bR bD bN
  have hBel : Below w.heap.size w ((((w.alloc (.cells #[.int .i64 oil] 3)).alloc (.cells #[.bool false] 4)).alloc (.cells #[.slice A dips.length cp] 60)).alloc (.cells #[.int .i64 (i : Int)] 3)) := ((((Below.refl _ _).alloc (Nat.le_refl _) _).alloc (by simp) _).alloc (by simp; omega) _).alloc (by simp; omega) _
  have hsz : ((((w.alloc (.cells #[.int .i64 oil] 3)).alloc (.cells #[.bool false] 4)).alloc (.cells #[.slice A dips.length cp] 60)).alloc (.cells #[.int .i64 (i : Int)] 3)).heap.size = w.heap.size + 4 := by simp
  obtain ⟨W0, hW0⟩ : ∃ W0, (((w.alloc (.cells #[.int .i64 oil] 3)).alloc (.cells #[.bool false] 4)).alloc (.cells #[.slice A dips.length cp] 60)).alloc (.cells #[.int .i64 (i : Int)] 3) = W0 := ⟨_, rfl⟩
  rw [hW0] at bO bR bD bN hBel hsz
  have hEA : OfEnv W0 (w.heap.size + 1 + 1) (w.heap.size + 1 + 1 + 1) A cp i dips := ⟨bD.cell, bN.cell, hA.keep hBel (Nat.le_refl _)⟩
  have HW0 := Lib.hid hW0
  have hA0 := Lib.hid hA
  clear hW0 hA
  refine callsIn_wide (n := 1) |>.1 ?_
  refine callsIn_of_wp_marks Try.func104 rfl trivial ?_
  simp only [Try.ntmps104, List.size_toArray, List.length_cons, List.length_nil, Nat.reduceAdd, Nat.reduceSub, Array.replicate_succ, Array.replicate_zero, List.push_toArray, List.append_toArray, List.nil_append, List.cons_append]
  gi_wp2_with (refine ⟨trivial, ?_⟩; gi_at_call 119; refine (callsIn_wide.2 (of_any _ _ _ _ _)).mono ?_; rintro e w' ⟨rfl, rfl⟩)
  rw [HW0.out]
  clear HW0
  refine wpIn_rangeFunc_ownH rfl (by omega) (gf := 123) (lb := #[.pointer (some ⟨w.heap.size + 1 + 1, 0, none⟩), .pointer (some ⟨w.heap.size + 1 + 1 + 1, 0, none⟩)]) rfl trivial (enters_of Try.func123 (by kernel_rfl) rfl)
    (of_stops (1 - 1) (w.heap.size + 1 + 1) (w.heap.size + 1 + 1 + 1) A cp i dips W0 hl hEA) KeepO.trans
    (fun W l o o' hl h _ _ => ?kb) (Below.refl _ _) (fun _ => rfl)
    (AInv dips i oil w W0)
    (fun c _ W => c = .ret ∧ AOut dips i oil w (w.heap.size + 1) W)
    AInv.own
    (fun c s W W' row hs hg hr => ⟨hs.1, AOut.own (β := Unit) (by omega) () W W' row hs.2 hg hr⟩)
    ?start
    (fun x a' W => ∃ Bx, w.heap.size + 4 ≤ Bx ∧ W.heap[Bx]? = some (.cells #[.int .i64 x.1.n, .int .i64 x.1.lo, .int .i64 x.1.hi] 103 (0, 0)) ∧ a' = { tmps := #[.slice A dips.length cp, .int .i64 i, .int .i64 oil, undef, undef, .pointer (some ⟨w.heap.size, 0, none⟩), .pointer (some ⟨w.heap.size + 1, 0, none⟩), .pointer (some ⟨Bx, 0, none⟩), .slice A dips.length cp, .int .i64 i, .func (.func 123) #[] #[.pointer (some ⟨w.heap.size + 1 + 1, 0, none⟩), .pointer (some ⟨w.heap.size + 1 + 1 + 1, 0, none⟩)], .agg #[.int .i64 x.1.n, .int .i64 x.1.lo, .int .i64 x.1.hi], undef, undef, undef, undef, undef], defers := [] })
    ?hAx ?assign ?body ?done ?stop
  case kb =>
    have hne : ∀ k, k < w.heap.size + 4 → (W.putObj l o').heap[k]? = W.heap[k]? := fun k hk => World.putObj_heap_other (by omega)
    refine ⟨by simp [World.putObj], hne _ (by omega), hne _ (by omega), fun hd b o t e => ?_⟩
    obtain ⟨b', o', h1, h2⟩ := hA0.out.resolve_left hd
    have hpos : 0 < dips.length := List.length_pos_iff.2 hd
    have hb' : b' < w.heap.size := World.block_lt_of_cell? w _ (h2 0 hpos).n
    rw [e] at h1
    cases h1
    exact hne b (by omega)
  case start => exact ⟨Below.refl _ _, fun x hx => by cases hx⟩
  case hAx =>
    intro x a' _ X Y row hs hg hr
    obtain ⟨Bx, h1, h2, h3⟩ := hs
    refine ⟨Bx, h1, (hg.block Bx (Array.getElem?_eq_some_iff.1 h2).1 (fun e => ?_)).trans h2, h3⟩
    obtain ⟨_, o, ho, hc⟩ := hr Bx e.symm
    rw [h2] at ho
    cases ho
    cases hc
  case assign =>
    rintro l pre x W K hi hK
    gi_wp2
    have hg1 : W.grownBy (W.alloc (.cells #[.int .i64 x.1.n, .int .i64 x.1.lo, .int .i64 x.1.hi] 103)) none := World.grownBy_alloc W _ none
    have hsW := hi.1.size
    refine hK _ _ ((KeepsOthers.alloc _ _).from _) ⟨hg1.size, hg1.block _ (by omega) (by simp), hg1.block _ (by omega) (by simp), fun hd b o t e => ?_⟩
      (AInv.own _ _ _ none hi hg1 (by simp)) ⟨W.heap.size, by omega, heap_alloc_new W _, rfl⟩
    obtain ⟨b', o', h1, h2⟩ := hA0.out.resolve_left hd
    have hpos : 0 < dips.length := List.length_pos_iff.2 hd
    have hb' : b' < w.heap.size := World.block_lt_of_cell? w _ (h2 0 hpos).n
    rw [e] at h1
    cases h1
    exact hg1.block _ (by omega) (by simp)
  case body =>
    rintro l pre x a' W hl hr hi ⟨Bx, hBx, bX, rfl⟩ hlenN
    obtain ⟨hKW1, hall⟩ := hi
    have cx1 : W.cell? ⟨Bx, 1, none⟩ = some (.int .i64 x.1.lo) := by simp [World.cell?, bX]
    have cx2 : W.cell? ⟨Bx, 2, none⟩ = some (.int .i64 x.1.hi) := by simp [World.cell?, bX]
    have cO : W.cell? ⟨w.heap.size, 0, none⟩ = some (.int .i64 oil) := (hKW1.cell (p := ⟨w.heap.size, 0, none⟩) (by show w.heap.size < _; omega)).trans bO.cell
    have HALL := Lib.hid hall
    have bRW : Boxed W (w.heap.size + 1) 4 (.bool false) := (hKW1.block (w.heap.size + 1) (by omega)).trans bR
    have lBx := (Array.getElem?_eq_some_iff.1 bX).1
    have hszW := hKW1.size
    clear hall bX
    gi_wp2_with fail
    refine ⟨trivial, rfl, ?_⟩
    refine (CallsIn.inRound l (callsIn_wide.2 (has_any _ _ _ _))).mono ?_
    rintro e w3 ⟨rfl, hb3⟩
    have hkf : KeepsFrom W0.heap.size W w3 := ⟨hb3.size, fun j o hj ho _ => (hb3.block j (Array.getElem?_eq_some_iff.1 ho).1).trans ho⟩
    have hko : KeepO (w.heap.size + 1 + 1) (w.heap.size + 1 + 1 + 1) A dips W w3 := ⟨hb3.size, hb3.block _ (by omega), hb3.block _ (by omega), fun hd b o t e => by
      obtain ⟨b', o', h1, h2⟩ := hA0.out.resolve_left hd
      have hpos : 0 < dips.length := List.length_pos_iff.2 hd
      have hb' : b' < w.heap.size := World.block_lt_of_cell? w _ (h2 0 hpos).n
      rw [e] at h1
      cases h1
      exact hb3.block _ (by omega)⟩
    have hK3 := hKW1.trans (hb3.mono hszW)
    have bR3 : Boxed w3 (w.heap.size + 1) 4 (.bool false) := (hb3.block _ (by omega)).trans bRW
    have cR3 : w3.cell? ⟨w.heap.size + 1, 0, none⟩ = some (.bool false) := bR3.cell
    have fR3 : w3.frozen? ⟨w.heap.size + 1, 0, none⟩ = false := bR3.frozen
    cases hin : inB oil x.1.lo x.1.hi with
    | true =>
      have HIN := Lib.hid hin
      clear hin
      gi_wp2
      exact ⟨hkf, hko, hK3, fun y hy => by
        rcases List.mem_append.1 hy with h | h
        · exact HALL.out y h
        · rw [List.mem_singleton.1 h]; exact HIN.out⟩
    | false =>
      have HIN := Lib.hid hin
      clear hin
      gi_wp2
      have hsame : ∀ j, j ≠ w.heap.size + 1 → (w3.setCell ⟨w.heap.size + 1, 0, none⟩ (.bool false)).heap[j]? = w3.heap[j]? := fun j hj => Below.heap_setCell _ _ _ _ hj
      refine ⟨⟨by simpa using hb3.size, fun j o hj ho hc => ?_⟩, rfl, ?_, bR3.set _, x.1, x.2.1, x.2.2, HIN.out⟩
      · exact (hsame j (by omega)).trans ((hb3.block j (Array.getElem?_eq_some_iff.1 ho).1).trans ho)
      · have h9 := hBel.trans (hK3.mono hBel.size)
        exact ⟨h9.os, h9.tape, h9.output, by simpa using h9.size, fun j hj => (hsame j (by omega)).trans (h9.block j hj)⟩
  case done =>
    rintro D xs W hD hAll ⟨hk1, hall⟩ hKD
    have bR1 : Boxed W (w.heap.size + 1) 4 (.bool false) := (hk1.block (w.heap.size + 1) (by omega)).trans bR
    have cR := bR1.cell
    have fR := bR1.frozen
    have HA := Lib.hid hall
    have HAll := Lib.hid hAll
    clear hall hAll
    gi_wp2
    have hsame : ∀ j, j ≠ w.heap.size + 1 → (W.setCell ⟨w.heap.size + 1, 0, none⟩ (.bool true)).heap[j]? = W.heap[j]? := fun j hj => Below.heap_setCell _ _ _ _ hj
    have hKD' := (hsame D (by omega)).trans hKD
    have bR2 := bR1.set (.bool true)
    refine ⟨by simp, .inl ⟨_, _, rfl, run_takeDeferred hKD', ?_⟩⟩
    have hput : ∀ j, j ≠ D → ((W.setCell ⟨w.heap.size + 1, 0, none⟩ (.bool true)).putObj D (.deferred none)).heap[j]? = (W.setCell ⟨w.heap.size + 1, 0, none⟩ (.bool true)).heap[j]? := fun j hj => World.putObj_heap_other hj
    have cR9 : ((W.setCell ⟨w.heap.size + 1, 0, none⟩ (.bool true)).putObj D (.deferred none)).cell? ⟨w.heap.size + 1, 0, none⟩ = some (.bool true) := (World.cell?_of_block (a := ⟨w.heap.size + 1, 0, none⟩) (hput (w.heap.size + 1) (by omega))).trans bR2.cell
    have hall : ∀ j, j < w.heap.size → ((W.setCell ⟨w.heap.size + 1, 0, none⟩ (.bool true)).putObj D (.deferred none)).heap[j]? = W.heap[j]? := fun j hj => (hput j (by omega)).trans (hsame j (by omega))
    have hsz9 : ((W.setCell ⟨w.heap.size + 1, 0, none⟩ (.bool true)).putObj D (.deferred none)).heap.size = W.heap.size := by simp [World.putObj]
    have hos9 : ((W.setCell ⟨w.heap.size + 1, 0, none⟩ (.bool true)).putObj D (.deferred none)).os = W.os ∧ ((W.setCell ⟨w.heap.size + 1, 0, none⟩ (.bool true)).putObj D (.deferred none)).tape = W.tape ∧ ((W.setCell ⟨w.heap.size + 1, 0, none⟩ (.bool true)).putObj D (.deferred none)).output = W.output := ⟨rfl, rfl, rfl⟩
    generalize (W.setCell ⟨w.heap.size + 1, 0, none⟩ (.bool true)).putObj D (.deferred none) = W9 at *
    have h9 := hBel.trans (hk1.mono hBel.size)
    have hag : agN dips i oil = true := agN_iff.2 fun d hd hn => HA.out ⟨d, hd, hn⟩ (allDips_all HAll.out ⟨d, hd, hn⟩)
    rw [hag]
    exact ⟨.bool true, by simp [results, Try.results104, go_sem, cR9], rfl, ⟨hos9.1.trans h9.os, hos9.2.1.trans h9.tape, hos9.2.2.trans h9.output, by rw [hsz9]; exact h9.size, fun j hj => (hall j hj).trans (h9.block j hj)⟩⟩
  case stop =>
    rintro D c xs W hD _ ⟨rfl, hO⟩ hKD
    gi_wp2
    refine ⟨by simp, .inl ⟨_, _, rfl, run_takeDeferred hKD, ?_⟩⟩
    obtain ⟨hkO, hb1, d, hd1, hd2, hd3⟩ := hO
    have hput : ∀ j, j ≠ D → (W.putObj D (.deferred none)).heap[j]? = W.heap[j]? := fun j hj => World.putObj_heap_other hj
    have cR9 : (W.putObj D (.deferred none)).cell? ⟨w.heap.size + 1, 0, none⟩ = some (.bool false) := (World.cell?_of_block (a := ⟨w.heap.size + 1, 0, none⟩) (hput (w.heap.size + 1) (by omega))).trans hb1.cell
    have hsz9 : (W.putObj D (.deferred none)).heap.size = W.heap.size := by simp [World.putObj]
    have hos9 : (W.putObj D (.deferred none)).os = W.os ∧ (W.putObj D (.deferred none)).tape = W.tape ∧ (W.putObj D (.deferred none)).output = W.output := ⟨rfl, rfl, rfl⟩
    generalize W.putObj D (.deferred none) = W9 at *
    have hag : agN dips i oil = false := by
      cases e : agN dips i oil with
      | false => rfl
      | true => rw [agN_iff.1 e d hd1 hd2] at hd3; cases hd3
    rw [hag]
    exact ⟨.bool false, by simp [results, Try.results104, go_sem, cR9], rfl, ⟨hos9.1.trans hkO.os, hos9.2.1.trans hkO.tape, hos9.2.2.trans hkO.output, by rw [hsz9]; exact hkO.size, fun j hj => (hput j (by omega)).trans (hkO.block j hj)⟩⟩
end Go.Proofs.Ytefhdcecbmgljaa

/-
  A search: what it works with.
-/
import Derived.Test.YtefhdcecbmgljaaDark
import Derived.Test.YtefhdcecbmgljaaBestL
set_option linter.all false
namespace Go.Proofs.Ytefhdcecbmgljaa
open Go.RowKit Go.WalkArith

/-- The numbers of a search are what they have to be. -/
structure JobS (s : St) (J : Job) : Prop where
  rng : ∀ i, i < s.ns.length → 0 ≤ J.lo i ∧ J.lo i ≤ J.hi i ∧ J.hi i ≤ 10
  bd : ∀ i n, i < s.ns.length → J.lo i ≤ n → n ≤ J.hi i → (0 ≤ J.c i n ∧ J.c i n ≤ 2) ∧ (1 ≤ J.k i n ∧ J.k i n ≤ 4)
  cost : ∀ i n, i < s.ns.length → J.lo i ≤ n → n ≤ J.hi i → -1000 ≤ J.cost i n ∧ J.cost i n ≤ 1000
theorem NtsAt.blocks' {W W' : World} {A : Option Addr} {l : List Nt} (h : NtsAt W A l) (hk : ∀ j, j < W.heap.size → W'.heap[j]? = W.heap[j]?) : NtsAt W' A l := by
  rcases h with h | ⟨b, o, h1, h2⟩
  · exact .inl h
  · refine .inr ⟨b, o, h1, fun i hi => ?_⟩
    obtain ⟨a0, a1, a2, a3, a4⟩ := h2 i hi
    have hc := fun j => World.cell?_of_block (a := ⟨b, j, none⟩) (hk b (World.block_lt_of_cell? W _ a0))
    exact ⟨(hc _).trans a0, (hc _).trans a1, (hc _).trans a2, (hc _).trans a3, (hc _).trans a4⟩

/-- The four functions of the search, in every world that has what they captured. -/
structure JobFD (w0 : World) (s : St) (J : Job) (Bs Bl : Nat) : Prop where
  lo : ∀ X : World, (∀ j, j < w0.heap.size → X.heap[j]? = w0.heap[j]?) → ∀ i : Nat, i < s.ns.length → Calls Try.prog 78 #[.int .i64 i] X fun e w' => e = .returned (.int .i64 (J.lo i)) ∧ Below X.heap.size X w'
  hi : ∀ X : World, (∀ j, j < w0.heap.size → X.heap[j]? = w0.heap[j]?) → ∀ i : Nat, i < s.ns.length → Calls Try.prog 79 #[.int .i64 i] X fun e w' => e = .returned (.int .i64 (J.hi i)) ∧ Below X.heap.size X w'
  cost : ∀ X : World, (∀ j, j < w0.heap.size → X.heap[j]? = w0.heap[j]?) → ∀ (i : Nat) (n : Int), i < s.ns.length → J.lo i ≤ n → n ≤ J.hi i → Calls Try.prog 80 #[.int .i64 i, .int .i64 n] X fun e w' => e = .returned (.int .i64 (J.cost i n)) ∧ Below X.heap.size X w'
  does : ∀ X : World, (∀ j, j < w0.heap.size → X.heap[j]? = w0.heap[j]?) → ∀ (i : Nat) (n : Int), i < s.ns.length → J.lo i ≤ n → n ≤ J.hi i → Calls Try.prog 81 #[.int .i64 i, .int .i64 n, .pointer (some ⟨Bl, 0, none⟩)] X fun e w' => e = .returned (.tuple #[.int .i64 (J.c i n), .int .i64 (J.k i n)]) ∧ Below X.heap.size X w'
/-- The cells of a search. -/
def wkCellsD (s : St) (A : Option Addr) (cp Bs Bl Bk : Nat) : Array Value :=
  #[.int .i64 s.cap, .int .i64 s.can, .int .i64 s.sl, .int .i64 s.sh, .slice A s.ns.length cp, .func (.func 78) #[] #[], .func (.func 79) #[] #[], .func (.func 80) #[] #[], .func (.func 81) #[] #[.pointer (some ⟨Bl, 0, none⟩)], .map (some Bk)]
/-- What a search works with: the block of its struct, the block of its map; what lay before it lies there. -/
structure WkEnvD (w0 : World) (Bw Bk : Nat) (s : St) (A : Option Addr) (cp Bs Bl : Nat) (W : World) : Prop where
  wk : W.heap[Bw]? = some (.cells (wkCellsD s A cp Bs Bl Bk) 131 (0, 0))
  old : ∀ j, j < w0.heap.size → W.heap[j]? = w0.heap[j]?
  size : w0.heap.size ≤ W.heap.size
  ne : Bw ≠ Bk
  lk : w0.heap.size ≤ Bk
  nts : NtsAt w0 A s.ns
section
variable {w0 W W' : World} {Bw Bk : Nat} {s : St} {A : Option Addr} {cp Bs Bl : Nat}
theorem WkEnvD.keep (h : WkEnvD w0 Bw Bk s A cp Bs Bl W) (hb : Below W.heap.size W W') : WkEnvD w0 Bw Bk s A cp Bs Bl W' :=
  ⟨(hb.block _ (Array.getElem?_eq_some_iff.1 h.wk).1).trans h.wk, fun j hj => (hb.block j (Nat.lt_of_lt_of_le hj h.size)).trans (h.old j hj), Nat.le_trans h.size hb.size, h.ne, h.lk, h.nts⟩
theorem WkEnvD.lt (h : WkEnvD w0 Bw Bk s A cp Bs Bl W) : Bw < W.heap.size := (Array.getElem?_eq_some_iff.1 h.wk).1
theorem WkEnvD.drew (h : WkEnvD w0 Bw Bk s A cp Bs Bl W) : WkEnvD w0 Bw Bk s A cp Bs Bl W.drew := ⟨h.wk, h.old, h.size, h.ne, h.lk, h.nts⟩
theorem WkEnvD.cells (h : WkEnvD w0 Bw Bk s A cp Bs Bl W) : W.cell? ⟨Bw, 0, none⟩ = some (.int .i64 s.cap) ∧ W.cell? ⟨Bw, 1, none⟩ = some (.int .i64 s.can) ∧ W.cell? ⟨Bw, 2, none⟩ = some (.int .i64 s.sl) ∧ W.cell? ⟨Bw, 3, none⟩ = some (.int .i64 s.sh) ∧ W.cell? ⟨Bw, 4, none⟩ = some (.slice A s.ns.length cp) ∧
    W.cell? ⟨Bw, 5, none⟩ = some (.func (.func 78) #[] #[]) ∧ W.cell? ⟨Bw, 6, none⟩ = some (.func (.func 79) #[] #[]) ∧ W.cell? ⟨Bw, 7, none⟩ = some (.func (.func 80) #[] #[]) ∧ W.cell? ⟨Bw, 8, none⟩ = some (.func (.func 81) #[] #[.pointer (some ⟨Bl, 0, none⟩)]) ∧ W.cell? ⟨Bw, 9, none⟩ = some (.map (some Bk)) := by
  have := h.wk
  unfold wkCellsD at this
  simp [World.cell?, this]
end

/-- The four functions of the search, in every world that has what they captured. -/
structure JobFT (w0 : World) (s : St) (J : Job) (Bs Bl : Nat) : Prop where
  lo : ∀ X : World, (∀ j, j < w0.heap.size → X.heap[j]? = w0.heap[j]?) → ∀ i : Nat, i < s.ns.length → Calls Try.prog 85 #[.int .i64 i, .pointer (some ⟨Bs, 0, none⟩)] X fun e w' => e = .returned (.int .i64 (J.lo i)) ∧ Below X.heap.size X w'
  hi : ∀ X : World, (∀ j, j < w0.heap.size → X.heap[j]? = w0.heap[j]?) → ∀ i : Nat, i < s.ns.length → Calls Try.prog 86 #[.int .i64 i, .pointer (some ⟨Bs, 0, none⟩)] X fun e w' => e = .returned (.int .i64 (J.hi i)) ∧ Below X.heap.size X w'
  cost : ∀ X : World, (∀ j, j < w0.heap.size → X.heap[j]? = w0.heap[j]?) → ∀ (i : Nat) (n : Int), i < s.ns.length → J.lo i ≤ n → n ≤ J.hi i → Calls Try.prog 87 #[.int .i64 i, .int .i64 n, .pointer (some ⟨Bs, 0, none⟩)] X fun e w' => e = .returned (.int .i64 (J.cost i n)) ∧ Below X.heap.size X w'
  does : ∀ X : World, (∀ j, j < w0.heap.size → X.heap[j]? = w0.heap[j]?) → ∀ (i : Nat) (n : Int), i < s.ns.length → J.lo i ≤ n → n ≤ J.hi i → Calls Try.prog 88 #[.int .i64 i, .int .i64 n, .pointer (some ⟨Bl, 0, none⟩)] X fun e w' => e = .returned (.tuple #[.int .i64 (J.c i n), .int .i64 (J.k i n)]) ∧ Below X.heap.size X w'
/-- The cells of a search. -/
def wkCellsT (s : St) (A : Option Addr) (cp Bs Bl Bk : Nat) : Array Value :=
  #[.int .i64 s.cap, .int .i64 s.can, .int .i64 s.sl, .int .i64 s.sh, .slice A s.ns.length cp, .func (.func 85) #[] #[.pointer (some ⟨Bs, 0, none⟩)], .func (.func 86) #[] #[.pointer (some ⟨Bs, 0, none⟩)], .func (.func 87) #[] #[.pointer (some ⟨Bs, 0, none⟩)], .func (.func 88) #[] #[.pointer (some ⟨Bl, 0, none⟩)], .map (some Bk)]
/-- What a search works with: the block of its struct, the block of its map; what lay before it lies there. -/
structure WkEnvT (w0 : World) (Bw Bk : Nat) (s : St) (A : Option Addr) (cp Bs Bl : Nat) (W : World) : Prop where
  wk : W.heap[Bw]? = some (.cells (wkCellsT s A cp Bs Bl Bk) 131 (0, 0))
  old : ∀ j, j < w0.heap.size → W.heap[j]? = w0.heap[j]?
  size : w0.heap.size ≤ W.heap.size
  ne : Bw ≠ Bk
  lk : w0.heap.size ≤ Bk
  nts : NtsAt w0 A s.ns
section
variable {w0 W W' : World} {Bw Bk : Nat} {s : St} {A : Option Addr} {cp Bs Bl : Nat}
theorem WkEnvT.keep (h : WkEnvT w0 Bw Bk s A cp Bs Bl W) (hb : Below W.heap.size W W') : WkEnvT w0 Bw Bk s A cp Bs Bl W' :=
  ⟨(hb.block _ (Array.getElem?_eq_some_iff.1 h.wk).1).trans h.wk, fun j hj => (hb.block j (Nat.lt_of_lt_of_le hj h.size)).trans (h.old j hj), Nat.le_trans h.size hb.size, h.ne, h.lk, h.nts⟩
theorem WkEnvT.lt (h : WkEnvT w0 Bw Bk s A cp Bs Bl W) : Bw < W.heap.size := (Array.getElem?_eq_some_iff.1 h.wk).1
theorem WkEnvT.drew (h : WkEnvT w0 Bw Bk s A cp Bs Bl W) : WkEnvT w0 Bw Bk s A cp Bs Bl W.drew := ⟨h.wk, h.old, h.size, h.ne, h.lk, h.nts⟩
theorem WkEnvT.cells (h : WkEnvT w0 Bw Bk s A cp Bs Bl W) : W.cell? ⟨Bw, 0, none⟩ = some (.int .i64 s.cap) ∧ W.cell? ⟨Bw, 1, none⟩ = some (.int .i64 s.can) ∧ W.cell? ⟨Bw, 2, none⟩ = some (.int .i64 s.sl) ∧ W.cell? ⟨Bw, 3, none⟩ = some (.int .i64 s.sh) ∧ W.cell? ⟨Bw, 4, none⟩ = some (.slice A s.ns.length cp) ∧
    W.cell? ⟨Bw, 5, none⟩ = some (.func (.func 85) #[] #[.pointer (some ⟨Bs, 0, none⟩)]) ∧ W.cell? ⟨Bw, 6, none⟩ = some (.func (.func 86) #[] #[.pointer (some ⟨Bs, 0, none⟩)]) ∧ W.cell? ⟨Bw, 7, none⟩ = some (.func (.func 87) #[] #[.pointer (some ⟨Bs, 0, none⟩)]) ∧ W.cell? ⟨Bw, 8, none⟩ = some (.func (.func 88) #[] #[.pointer (some ⟨Bl, 0, none⟩)]) ∧ W.cell? ⟨Bw, 9, none⟩ = some (.map (some Bk)) := by
  have := h.wk
  unfold wkCellsT at this
  simp [World.cell?, this]
end
end Go.Proofs.Ytefhdcecbmgljaa

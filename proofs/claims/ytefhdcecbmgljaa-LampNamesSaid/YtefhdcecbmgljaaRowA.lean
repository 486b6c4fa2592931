/-
  Rows of 401 booleans: reading, writing, comparing.
-/
import Derived.Test.YtefhdcecbmgljaaEnds
import Derived.ChangeKeysEq
import Derived.Laws.StructEq
set_option linter.all false
namespace Go.Proofs.Ytefhdcecbmgljaa
open Go.RowKit Go.WalkArith

def isF : Option Value → Bool
  | some (.bool false) => true
  | _ => false
theorem isF_eq {o : Option Value} (h : isF o = true) : o = some (.bool false) := by
  unfold isF at h
  split at h
  · rfl
  · cases h
def oilsN : Nat := 401
theorem zeros_at : ∀ i, i < 401 → Try.zeroCells139[i]? = some (.bool false) := by
  have h : (List.range oilsN).all (fun i => isF Try.zeroCells139[i]?) = true := by kernel_rfl
  intro i hi
  exact isF_eq (List.all_eq_true.1 h i (List.mem_range.2 hi))
theorem zeros_row : RowV Try.zeroCells139 (fun _ => false) := ⟨by kernel_rfl, zeros_at⟩
theorem Try.info139 : (Try.prog.info? 139).map (·.size) = some 401 := by kernel_rfl

theorem RowV.info {cs : Array Value} {f : Nat → Bool} (h : RowV cs f) : (Try.prog.info? 139).map (·.size) = some cs.size := by rw [h.1]; exact Try.info139
theorem RowV.one {cs : Array Value} {f : Nat → Bool} (h : RowV cs f) : cs.all (·.oneCell') = true := by
  rw [Array.all_eq_true_iff_forall_mem]
  intro v hv
  obtain ⟨i, hi, rfl⟩ := Array.mem_iff_getElem.1 hv
  have := h.2 i (by rw [← h.1]; exact hi)
  rw [Array.getElem?_eq_getElem hi] at this
  injection this with this
  rw [this]; rfl
theorem RowV.set {cs : Array Value} {f : Nat → Bool} (h : RowV cs f) {k : Nat} (hk : k < 401) (v : Bool) : RowV (cs.setIfInBounds k (.bool v)) (setF f k v) := by
  refine ⟨by simp [h.1], fun i hi => ?_⟩
  rw [Array.getElem?_setIfInBounds]
  unfold setF
  by_cases e : k = i
  · subst e; simp [h.1, hk]
  · rw [if_neg e, if_neg (fun h => e h.symm), h.2 i hi]
theorem RowV.congr {cs : Array Value} {f g : Nat → Bool} (h : RowV cs f) (hg : ∀ i, i < 401 → g i = f i) : RowV cs g := ⟨h.1, fun i hi => by rw [h.2 i hi, hg i hi]⟩

/-- Block B is a row. -/
def RowAt (W : World) (B : Nat) (f : Nat → Bool) : Prop := ∃ cs, W.heap[B]? = some (.cells cs 139 (0, 0)) ∧ RowV cs f
section
variable {W : World} {B : Nat} {f : Nat → Bool}
theorem RowAt.cell (h : RowAt W B f) {i : Nat} (hi : i < 401) : W.cell? ⟨B, i, none⟩ = some (.bool (f i)) := by
  obtain ⟨cs, hb, hc⟩ := h
  simp [World.cell?, hb, hc.2 i hi]
theorem RowAt.frozen (h : RowAt W B f) (i : Nat) : W.frozen? ⟨B, i, none⟩ = false := by
  obtain ⟨cs, hb, hc⟩ := h
  simp [World.frozen?, hb]
theorem RowAt.lt (h : RowAt W B f) : B < W.heap.size := by
  obtain ⟨cs, hb, _⟩ := h
  exact (Array.getElem?_eq_some_iff.1 hb).1
theorem RowAt.of_block {W' : World} (h : RowAt W B f) (hb : W'.heap[B]? = W.heap[B]?) : RowAt W' B f := by
  obtain ⟨cs, h1, h2⟩ := h
  exact ⟨cs, hb.trans h1, h2⟩
theorem RowAt.keep {W' : World} (h : RowAt W B f) {N : Nat} (hb : Below N W W') (hB : W.heap.size ≤ N) : RowAt W' B f := h.of_block (hb.block _ (Nat.lt_of_lt_of_le h.lt hB))
theorem RowAt.set (h : RowAt W B f) {v : Nat} (hv : v < 401) (x : Bool) : RowAt (W.setCell ⟨B, v, none⟩ (.bool x)) B (setF f v x) := by
  obtain ⟨cs, hb, hc⟩ := h
  exact ⟨cs.setIfInBounds v (.bool x), by simp [World.setCell, Array.getElem?_modify, hb], hc.set hv x⟩
theorem RowAt.congr {g : Nat → Bool} (h : RowAt W B f) (hg : ∀ i, i < 401 → g i = f i) : RowAt W B g := by
  obtain ⟨cs, hb, hc⟩ := h
  exact ⟨cs, hb, hc.congr hg⟩
end
theorem RowAt.new (w : World) : RowAt (w.alloc (.cells Try.zeroCells139 139)) w.heap.size (fun _ => false) := ⟨_, Go.heap_alloc_new w _, zeros_row⟩

theorem part_bool {cs : Array Value} {f : Nat → Bool} (h : RowV cs f) {k : Nat} (hk : k < 401) (w : World) : (part 4 cs (k * 1)).run Try.prog w = .ok (.bool (f k)) w := by
  have hsz : (sizeOf 4).run Try.prog w = .ok 1 w := by kernel_rfl
  have hag : (isAgg 4).run Try.prog w = .ok false w := by kernel_rfl
  have h1 := h.2 k hk
  rw [← h.1] at hk
  rw [Nat.mul_one]
  have h2 : cs[k] = .bool (f k) := by rw [Array.getElem?_eq_getElem hk] at h1; injection h1
  simp [part, hsz, hag, Result.andThen, hk, h2]
theorem run_index_row {cs : Array Value} {f : Nat → Bool} (h : RowV cs f) {k : Nat} (hk : k < 401) (w : World) :
    (Instr.index 139 (.agg cs) (.int .i64 k)).run Try.prog w = .ok (.bool (f k)) w := by
  have hu : Try.prog.underlying 139 = some (.array 401 4) := Try.underlying139
  have hsz : (sizeOf 4).run Try.prog w = .ok 1 w := by kernel_rfl
  have hp := part_bool h hk w
  rw [Nat.mul_one] at hp
  have h1 : (k : Int) < 401 := by omega
  simp [Instr.index, asIntOf, run_underlying hu, hsz, Result.andThen, hp, h1]
  intro h2; omega
theorem run_items {xs ys : Array Value} {f g : Nat → Bool} (hx : RowV xs f) (hy : RowV ys g) (d : Nat) (w : World) : ∀ is : List Nat, (∀ i ∈ is, i < 401) → (Op.eqItems (d + 1) 4 (Try.prog.cellsOf 4) xs ys is).run Try.prog w = .ok (is.all fun i => f i == g i) w := by
  have hc : Try.prog.cellsOf 4 = 1 := by kernel_rfl
  intro is
  induction is with
  | nil => intro _; simp [Op.eqItems]
  | cons i is ih =>
    intro h
    have ih' := ih fun j hj => h j (by simp [hj])
    rw [hc] at ih' ⊢
    have h1 := part_bool hx (h i (by simp)) w
    have h2 := part_bool hy (h i (by simp)) w
    have h3 := run_equalIn_bool w d 4 (f i) (g i) Try.underlying4
    simp only [Op.eqItems, Sem.run_bind, h1, h2, h3, Result.andThen_ok, List.all_cons]
    cases e : (f i == g i) with
    | false => simp
    | true => simpa using ih'
/-- No oil. -/
def emptyB (f : Nat → Bool) : Bool := (List.range oilsN).all fun i => f i == false
theorem emptyB_iff {f : Nat → Bool} : emptyB f = true ↔ ∀ x, x < 401 → f x = false := by
  unfold emptyB
  rw [List.all_eq_true]
  constructor
  · intro h x hx; simpa using h x (List.mem_range.2 hx)
  · intro h x hx; simpa using h x (List.mem_range.1 hx)
theorem run_rows_eq {xs : Array Value} {f : Nat → Bool} (hx : RowV xs f) (w : World) : (Op.equalIn 10000 139 (.agg xs) (.agg Try.zeroCells139)).run Try.prog w = .ok (emptyB f) w := by
  have hi : ∃ i, Try.prog.info? 4 = some i := by
    cases e : Try.prog.info? 4 with
    | none => exact absurd (show (Try.prog.info? 4).isSome = true by kernel_rfl) (by rw [e]; simp)
    | some i => exact ⟨i, rfl⟩
  obtain ⟨i, hi⟩ := hi
  rw [run_equalIn_array w 9999 xs Try.zeroCells139 (n := oilsN) Try.underlying139 hi]
  exact run_items hx zeros_row 9998 w (List.range oilsN) (fun i hi => List.mem_range.1 hi)
end Go.Proofs.Ytefhdcecbmgljaa

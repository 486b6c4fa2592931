/-
  What begin works with: the boxes, the map, the row of what nodes give; plain facts on these.
-/
import Derived.Test.YtkloaeaepjoijaaNets
import Derived.Test.YtkloaeaepjoijaaFlowCalls
import Derived.Laws.Rows
set_option linter.all false
namespace Go.Proofs.Ytkloaeaepjoijaa
open Go.RowKit Go.WalkArith

/-- An array of rooms. -/
structure RoomsV (rs : Array Value) (lo hi : Int → Int) : Prop where
  size : (Try.prog.info? 109).map (·.size) = some rs.size
  lo : ∀ i : Nat, i < 12 → rs[i * 2]? = some (.int .i64 (lo i))
  hi : ∀ i : Nat, i < 12 → rs[i * 2 + 1]? = some (.int .i64 (hi i))

/-- The angles' triangles and circles, as nodes. -/
def tOf (l : List Ang) (i : Int) : Int := (l[i.toNat]?.map (·.t)).getD (-1)
def cOf (l : List Ang) (i : Int) : Int := (l[i.toNat]?.map (·.c)).getD (-1)
def frL (l : List Ang) (i : Int) : Int := nodeOf (tOf l i) 0
def toL (l : List Ang) (i : Int) : Int := nodeOf (cOf l i) 5

/-- A valid net. -/
structure NetOk (l : List Ang) (T C : Int) : Prop where
  pos : 0 < l.length
  len : l.length ≤ 12
  t0 : 0 ≤ T
  t1 : T ≤ 5
  c0 : 0 ≤ C
  c1 : C ≤ 5
  ang : ∀ a ∈ l, -1 ≤ a.t ∧ a.t < T ∧ -1 ≤ a.c ∧ a.c < C ∧ 0 ≤ a.r ∧ a.r ≤ 40 ∧ 1 ≤ a.g ∧ a.g ≤ 3

theorem tOf_at {l : List Ang} {i : Nat} (h : i < l.length) : tOf l i = l[i].t := by simp [tOf, h]
theorem cOf_at {l : List Ang} {i : Nat} (h : i < l.length) : cOf l i = l[i].c := by simp [cOf, h]
theorem frL_at {l : List Ang} {i : Nat} (h : i < l.length) : frL l i = nodeOf l[i].t 0 := by rw [frL, tOf_at h]
theorem toL_at {l : List Ang} {i : Nat} (h : i < l.length) : toL l i = nodeOf l[i].c 5 := by rw [toL, cOf_at h]

theorem NetOk.fr {l : List Ang} {T C : Int} (h : NetOk l T C) {i : Nat} (hi : i < l.length) : (0 ≤ frL l i ∧ frL l i < T) ∨ frL l i = 10 := by
  rw [frL_at hi]
  have := h.ang l[i] (List.getElem_mem hi)
  unfold nodeOf
  split <;> omega
theorem NetOk.to {l : List Ang} {T C : Int} (h : NetOk l T C) {i : Nat} (hi : i < l.length) : (5 ≤ toL l i ∧ toL l i < 5 + C) ∨ toL l i = 10 := by
  rw [toL_at hi]
  have := h.ang l[i] (List.getElem_mem hi)
  unfold nodeOf
  split <;> omega

/-- Rooms of the first n angles that have numbers. -/
structure RoomsOk (n : Nat) (lo hi : Int → Int) : Prop where
  lo0 : ∀ i : Nat, i < n → 0 ≤ lo i
  le : ∀ i : Nat, i < n → lo i ≤ hi i
  hi1 : ∀ i : Nat, i < n → hi i ≤ 40

/-- What can flow at first, as far as it has been laid. -/
def initK (len : Nat) (fr to cap give : Int → Int) (k : Nat) (x y z : Int) : Int :=
  if z = -1 then (if x = 11 ∧ 0 ≤ y ∧ y < (k : Int) then max 0 (give y) else if y = 12 ∧ 0 ≤ x ∧ x < (k : Int) then max 0 (-give x) else 0)
  else if 0 ≤ z ∧ z < (len : Int) ∧ x = fr z ∧ y = to z ∧ fr z ≠ to z then cap z else 0

theorem initK_all (len : Nat) (fr to cap give : Int → Int) : initK len fr to cap give 11 = initF len fr to cap give := by
  funext x y z
  unfold initK initF
  split
  · by_cases h : x = 11 ∧ 0 ≤ y ∧ y ≤ 10
    · rw [if_pos ⟨h.1, h.2.1, by omega⟩, if_pos h]
    · rw [if_neg (fun h' => h ⟨h'.1, h'.2.1, by omega⟩), if_neg h]
      by_cases h2 : y = 12 ∧ 0 ≤ x ∧ x ≤ 10
      · rw [if_pos ⟨h2.1, h2.2.1, by omega⟩, if_pos h2]
      · rw [if_neg (fun h' => h2 ⟨h'.1, h'.2.1, by omega⟩), if_neg h2]
  · rfl

theorem initK_zero (fr to cap give : Int → Int) : initK 0 fr to cap give 0 = fun _ _ _ => 0 := by
  funext x y z
  unfold initK
  split
  · rw [if_neg (fun h => by omega), if_neg (fun h => by omega)]
  · rw [if_neg (fun h => by omega)]

theorem initK_give (len : Nat) (fr to cap give give' : Int → Int) : initK len fr to cap give 0 = initK len fr to cap give' 0 := by
  funext x y z
  unfold initK
  split
  · rw [if_neg (fun h => by omega), if_neg (fun h => by omega), if_neg (fun h => by omega), if_neg (fun h => by omega)]
  · rfl

theorem initK_angle (k : Nat) (fr to cap give : Int → Int) (h : fr k ≠ to k) : upd (initK k fr to cap give 0) (fr k) (to k) k (cap k) = initK (k + 1) fr to cap give 0 := by
  funext x y z
  unfold upd
  by_cases e : x = fr k ∧ y = to k ∧ z = k
  · rw [if_pos e]
    obtain ⟨rfl, rfl, rfl⟩ := e
    unfold initK
    rw [if_neg (by omega), if_pos ⟨by omega, by omega, rfl, rfl, h⟩]
  · rw [if_neg e]
    unfold initK
    split
    · rfl
    · by_cases e2 : 0 ≤ z ∧ z < ((k + 1 : Nat) : Int) ∧ x = fr z ∧ y = to z ∧ fr z ≠ to z
      · have hz : z ≠ (k : Int) := by rintro rfl; exact e ⟨e2.2.2.1, e2.2.2.2.1, rfl⟩
        rw [if_pos e2, if_pos ⟨e2.1, by omega, e2.2.2⟩]
      · rw [if_neg e2, if_neg (fun h => e2 ⟨h.1, by omega, h.2.2⟩)]

theorem initK_skip (k : Nat) (fr to cap give : Int → Int) (h : fr k = to k) : initK k fr to cap give 0 = initK (k + 1) fr to cap give 0 := by
  funext x y z
  unfold initK
  split
  · rfl
  · by_cases e2 : 0 ≤ z ∧ z < ((k + 1 : Nat) : Int) ∧ x = fr z ∧ y = to z ∧ fr z ≠ to z
    · have hz : z ≠ (k : Int) := by rintro rfl; exact e2.2.2.2.2 h
      rw [if_pos e2, if_pos ⟨e2.1, by omega, e2.2.2⟩]
    · rw [if_neg e2, if_neg (fun h => e2 ⟨h.1, by omega, h.2.2⟩)]

theorem initK_at11 (len : Nat) (fr to cap give : Int → Int) (k : Nat) (hk : k ≤ 10) : initK len fr to cap give k 11 k (-1) = 0 := by
  unfold initK
  rw [if_pos rfl, if_neg (fun h => by omega), if_neg (fun h => by omega)]
theorem initK_at12 (len : Nat) (fr to cap give : Int → Int) (k : Nat) (hk : k ≤ 10) : initK len fr to cap give k k 12 (-1) = 0 := by
  unfold initK
  rw [if_pos rfl, if_neg (fun h => by omega), if_neg (fun h => by omega)]

theorem initK_pos (len : Nat) (fr to cap give : Int → Int) (k : Nat) (hk : k ≤ 10) (h : 0 < give k) : upd (initK len fr to cap give k) 11 k (-1) (give k) = initK len fr to cap give (k + 1) := by
  funext x y z
  unfold upd
  by_cases e : x = 11 ∧ y = k ∧ z = -1
  · rw [if_pos e]
    obtain ⟨rfl, rfl, rfl⟩ := e
    unfold initK
    rw [if_pos rfl, if_pos ⟨rfl, by omega, by omega⟩]
    omega
  · rw [if_neg e]
    unfold initK
    split
    · rename_i hz
      by_cases a1 : x = 11 ∧ 0 ≤ y ∧ y < ((k + 1 : Nat) : Int)
      · have : y ≠ (k : Int) := fun hy => e ⟨a1.1, hy, hz⟩
        rw [if_pos a1, if_pos ⟨a1.1, a1.2.1, by omega⟩]
      · rw [if_neg a1, if_neg (fun h' => a1 ⟨h'.1, h'.2.1, by omega⟩)]
        by_cases a2 : y = 12 ∧ 0 ≤ x ∧ x < ((k + 1 : Nat) : Int)
        · rw [if_pos a2]
          by_cases a3 : x = (k : Int)
          · rw [if_neg (fun h' => by omega), a3]; omega
          · rw [if_pos ⟨a2.1, a2.2.1, by omega⟩]
        · rw [if_neg a2, if_neg (fun h' => a2 ⟨h'.1, h'.2.1, by omega⟩)]
    · rfl

theorem initK_neg (len : Nat) (fr to cap give : Int → Int) (k : Nat) (hk : k ≤ 10) (h : give k ≤ 0) : upd (initK len fr to cap give k) k 12 (-1) (0 - give k) = initK len fr to cap give (k + 1) := by
  funext x y z
  unfold upd
  by_cases e : x = k ∧ y = 12 ∧ z = -1
  · rw [if_pos e]
    obtain ⟨rfl, rfl, rfl⟩ := e
    unfold initK
    rw [if_pos rfl, if_neg (fun h => by omega), if_pos ⟨rfl, by omega, by omega⟩]
    omega
  · rw [if_neg e]
    unfold initK
    split
    · rename_i hz
      by_cases a1 : x = 11 ∧ 0 ≤ y ∧ y < ((k + 1 : Nat) : Int)
      · rw [if_pos a1]
        by_cases a3 : y = (k : Int)
        · rw [if_neg (fun h' => by omega), if_neg (fun h' => by omega), a3]; omega
        · rw [if_pos ⟨a1.1, a1.2.1, by omega⟩]
      · rw [if_neg a1, if_neg (fun h' => a1 ⟨h'.1, h'.2.1, by omega⟩)]
        by_cases a2 : y = 12 ∧ 0 ≤ x ∧ x < ((k + 1 : Nat) : Int)
        · have : x ≠ (k : Int) := fun hx => e ⟨hx, a2.1, hz⟩
          rw [if_pos a2, if_pos ⟨a2.1, a2.2.1, by omega⟩]
        · rw [if_neg a2, if_neg (fun h' => a2 ⟨h'.1, h'.2.1, by omega⟩)]
    · rfl

theorem give9_bd (T C : Int) (fr to lo : Int → Int) : ∀ (k : Nat) (v : Int), k ≤ 12 → (∀ i : Nat, i < k → 0 ≤ lo i ∧ lo i ≤ 40) → -72 - 40 * (k : Int) ≤ give9 k T C fr to lo v ∧ give9 k T C fr to lo v ≤ 36 + 40 * (k : Int) := by
  intro k v
  induction k with
  | zero => intro _ _; unfold give9 base; simp only [sumR]; split <;> (try split) <;> omega
  | succ k ih =>
    intro hk h
    have h1 := ih (by omega) (fun i hi => h i (by omega))
    have h2 := h k (by omega)
    have e : give9 (k + 1) T C fr to lo v = give9 k T C fr to lo v + ((if to k = v then lo k else 0) - (if fr k = v then lo k else 0)) := by unfold give9; simp only [sumR]; omega
    rw [e]
    split <;> split <;> omega

theorem give9_succ (T C : Int) (fr to lo : Int → Int) (k : Nat) (v : Int) : give9 (k + 1) T C fr to lo v = give9 k T C fr to lo v + ((if to k = v then lo k else 0) - (if fr k = v then lo k else 0)) := by
  unfold give9; simp only [sumR]; omega

/-- Block G is a row of thirteen integers. -/
def GiveAt (W : World) (G : Nat) (t : TypeId) (gv : Int → Int) : Prop :=
  ∃ cs, W.heap[G]? = some (.cells cs t (0, 0)) ∧ cs.size = 13 ∧ ∀ i : Nat, i < 13 → cs[i]? = some (.int .i64 (gv i))

def updG (gv : Int → Int) (i v : Int) : Int → Int := fun u => if u = i then v else gv u

section
variable {W W' : World} {G : Nat} {t : TypeId} {gv : Int → Int}
theorem GiveAt.cell (h : GiveAt W G t gv) {i : Nat} (hi : i < 13) : W.cell? ⟨G, i, none⟩ = some (.int .i64 (gv i)) := by
  obtain ⟨cs, hb, hs, hc⟩ := h
  simp [World.cell?, hb, hc i hi]
theorem GiveAt.frozen (h : GiveAt W G t gv) (i : Nat) : W.frozen? ⟨G, i, none⟩ = false := by
  obtain ⟨cs, hb, hs, hc⟩ := h
  simp [World.frozen?, hb]
theorem GiveAt.lt (h : GiveAt W G t gv) : G < W.heap.size := by
  obtain ⟨cs, hb, _⟩ := h
  exact (Array.getElem?_eq_some_iff.1 hb).1
theorem GiveAt.of_block (h : GiveAt W G t gv) (hb : W'.heap[G]? = W.heap[G]?) : GiveAt W' G t gv := by
  obtain ⟨cs, h1, h2⟩ := h
  exact ⟨cs, hb.trans h1, h2⟩
theorem GiveAt.congr {gv' : Int → Int} (h : GiveAt W G t gv) (he : ∀ i : Nat, i < 13 → gv' i = gv i) : GiveAt W G t gv' := by
  obtain ⟨cs, h1, h2, h3⟩ := h
  exact ⟨cs, h1, h2, fun i hi => by rw [he i hi]; exact h3 i hi⟩
theorem GiveAt.set (h : GiveAt W G t gv) {v : Nat} (x : Int) (hv : v < 13) : GiveAt (W.setCell ⟨G, v, none⟩ (.int .i64 x)) G t (updG gv v x) := by
  obtain ⟨cs, hb, hs, hc⟩ := h
  refine ⟨cs.setIfInBounds v (.int .i64 x), ?_, by simp [hs], fun i hi => ?_⟩
  · simp [World.setCell, Array.getElem?_modify, hb]
  · rw [Array.getElem?_setIfInBounds]
    by_cases e : v = i
    · subst e; simp [hs, hv, updG]
    · rw [if_neg e, hc i hi]
      unfold updG
      rw [if_neg (by omega)]
end

/-- What begin's loops keep. -/
structure BegEnv (B0 B1 B2 B3 B4 : Nat) (w : World) (A : Option Addr) (n cap : Nat) (T C : Int) (rs : Array Value) (W : World) (f : Int → Int → Int → Int) (gv : Int → Int) : Prop where
  ord : w.heap.size ≤ B0 ∧ B0 < B1 ∧ B1 < B2 ∧ B2 < B3 ∧ B3 < B4
  below : Below w.heap.size w W
  net : W.heap[B0]? = some (.cells #[.slice A n cap, .int .i64 T, .int .i64 C] 33 (0, 0))
  room : W.heap[B1]? = some (.cells rs 109 (0, 0))
  map : ArcMap W B2 f
  work : W.heap[B3]? = some (.cells #[.slice A n cap, .int .i64 T, .int .i64 C, .map (some B2)] 153 (0, 0))
  give : GiveAt W B4 107 gv

section
variable {B0 B1 B2 B3 B4 : Nat} {w W W' : World} {A : Option Addr} {n cap : Nat} {T C : Int} {rs : Array Value} {f : Int → Int → Int → Int} {gv : Int → Int}

theorem BegEnv.lt (h : BegEnv B0 B1 B2 B3 B4 w A n cap T C rs W f gv) : B4 < W.heap.size := h.give.lt

theorem BegEnv.keep (h : BegEnv B0 B1 B2 B3 B4 w A n cap T C rs W f gv) (hb : Below W.heap.size W W') : BegEnv B0 B1 B2 B3 B4 w A n cap T C rs W' f gv := by
  have hl := h.lt
  have ho := h.ord
  exact ⟨ho, h.below.trans (hb.mono (by omega)), (hb.block _ (by omega)).trans h.net, (hb.block _ (by omega)).trans h.room, h.map.of_block (hb.block _ (by omega)), (hb.block _ (by omega)).trans h.work, h.give.of_block (hb.block _ (by omega))⟩

theorem BegEnv.set (h : BegEnv B0 B1 B2 B3 B4 w A n cap T C rs W f gv) {v : Nat} (x : Int) (hv : v < 13) : BegEnv B0 B1 B2 B3 B4 w A n cap T C rs (W.setCell ⟨B4, v, none⟩ (.int .i64 x)) f (updG gv v x) := by
  have ho := h.ord
  have hs : ∀ j, j ≠ B4 → (W.setCell ⟨B4, v, none⟩ (.int .i64 x)).heap[j]? = W.heap[j]? := fun j hj => Below.heap_setCell _ _ _ _ hj
  exact ⟨ho, h.below.setCell (by simp; omega) _, (hs _ (by omega)).trans h.net, (hs _ (by omega)).trans h.room, h.map.of_block (hs _ (by omega)), (hs _ (by omega)).trans h.work, h.give.set x hv⟩

theorem BegEnv.mapped (h : BegEnv B0 B1 B2 B3 B4 w A n cap T C rs W f gv) {f' : Int → Int → Int → Int} (hm : ArcMap W' B2 f') (ho : MapOnly B2 W W') : BegEnv B0 B1 B2 B3 B4 w A n cap T C rs W' f' gv := by
  have ho' := h.ord
  exact ⟨ho', ho.below h.below (by omega), (ho.block _ (by omega)).trans h.net, (ho.block _ (by omega)).trans h.room, hm, (ho.block _ (by omega)).trans h.work, h.give.of_block (ho.block _ (by omega))⟩

theorem BegEnv.gives (h : BegEnv B0 B1 B2 B3 B4 w A n cap T C rs W f gv) {gv' : Int → Int} (he : ∀ i : Nat, i < 13 → gv' i = gv i) : BegEnv B0 B1 B2 B3 B4 w A n cap T C rs W f gv' :=
  ⟨h.ord, h.below, h.net, h.room, h.map, h.work, h.give.congr he⟩

theorem BegEnv.flow (h : BegEnv B0 B1 B2 B3 B4 w A n cap T C rs W f gv) {f' : Int → Int → Int → Int} (he : f = f') : BegEnv B0 B1 B2 B3 B4 w A n cap T C rs W f' gv := he ▸ h

theorem BegEnv.cells (h : BegEnv B0 B1 B2 B3 B4 w A n cap T C rs W f gv) : W.cell? ⟨B0, 0, none⟩ = some (.slice A n cap) ∧ W.cell? ⟨B0, 1, none⟩ = some (.int .i64 T) ∧ W.cell? ⟨B0, 2, none⟩ = some (.int .i64 C) ∧ W.cell? ⟨B3, 3, none⟩ = some (.map (some B2)) := by
  refine ⟨?_, ?_, ?_, ?_⟩ <;> simp [World.cell?, h.net, h.work]

theorem BegEnv.lo (h : BegEnv B0 B1 B2 B3 B4 w A n cap T C rs W f gv) {lo hi : Int → Int} (hr : RoomsV rs lo hi) {i : Nat} (hi' : i < 12) : W.cell? ⟨B1, i * 2, none⟩ = some (.int .i64 (lo i)) ∧ W.cell? ⟨B1, i * 2 + 1, none⟩ = some (.int .i64 (hi i)) := by
  constructor
  · simp [World.cell?, h.room, hr.lo i hi']
  · simp [World.cell?, h.room, hr.hi i hi']

def zeros13 : Array Value := #[.int .i64 0, .int .i64 0, .int .i64 0, .int .i64 0, .int .i64 0, .int .i64 0, .int .i64 0, .int .i64 0, .int .i64 0, .int .i64 0, .int .i64 0, .int .i64 0, .int .i64 0]

theorem zeros13_at (i : Nat) (h : i < 13) : zeros13[i]? = some (.int .i64 0) := by
  have : ∀ i : Fin 13, zeros13[i.1]? = some (.int .i64 0) := by intro i; match i with | ⟨0, _⟩ | ⟨1, _⟩ | ⟨2, _⟩ | ⟨3, _⟩ | ⟨4, _⟩ | ⟨5, _⟩ | ⟨6, _⟩ | ⟨7, _⟩ | ⟨8, _⟩ | ⟨9, _⟩ | ⟨10, _⟩ | ⟨11, _⟩ | ⟨12, _⟩ => rfl
  exact this ⟨i, h⟩

theorem heap_new_at (w : World) (o : Obj) (k : Nat) (hk : k = w.heap.size) : (w.alloc o).heap[k]? = some o := by subst hk; exact Go.heap_alloc_new w o

theorem BegEnv.start (w : World) (A : Option Addr) (n cap : Nat) (T C : Int) (rs : Array Value) :
    BegEnv w.heap.size (w.heap.size + 1) (w.heap.size + 1 + 1) (w.heap.size + 1 + 1 + 1) (w.heap.size + 1 + 1 + 1 + 1) w A n cap T C rs
      (((((w.alloc (.cells #[.slice A n cap, .int .i64 T, .int .i64 C] 33)).alloc (.cells rs 109)).alloc (.map #[] 0)).alloc (.cells #[.slice A n cap, .int .i64 T, .int .i64 C, .map (some (w.heap.size + 1 + 1))] 153)).alloc (.cells zeros13 107)) (fun _ _ _ => 0) (fun _ => 0) := by
  have hm : ArcMap (((w.alloc (.cells #[.slice A n cap, .int .i64 T, .int .i64 C] 33)).alloc (.cells rs 109)).alloc (.map #[] 0)) (w.heap.size + 1 + 1) (fun _ _ _ => 0) := by
    have := ArcMap.new ((w.alloc (.cells #[.slice A n cap, .int .i64 T, .int .i64 C] 33)).alloc (.cells rs 109))
    simpa using this
  have b1 := Below.refl w.heap.size w
  have b2 := b1.alloc (Nat.le_refl _) (.cells #[.slice A n cap, .int .i64 T, .int .i64 C] 33)
  have b3 := b2.alloc (by simp) (.cells rs 109)
  have b4 := b3.alloc (by simp; omega) (.map #[] 0)
  have b5 := b4.alloc (by simp; omega) (.cells #[.slice A n cap, .int .i64 T, .int .i64 C, .map (some (w.heap.size + 1 + 1))] 153)
  have b6 := b5.alloc (by simp; omega) (.cells zeros13 107)
  refine ⟨by omega, b6, ?_, ?_, ?_, ?_, ?_⟩
  · rw [Below.heap_alloc _ _ _ (by simp; try omega), Below.heap_alloc _ _ _ (by simp; try omega), Below.heap_alloc _ _ _ (by simp; try omega), Below.heap_alloc _ _ _ (by simp; try omega)]
    exact heap_new_at _ _ _ rfl
  · rw [Below.heap_alloc _ _ _ (by simp; try omega), Below.heap_alloc _ _ _ (by simp; try omega), Below.heap_alloc _ _ _ (by simp; try omega)]
    exact heap_new_at _ _ _ (by simp)
  · exact (hm.of_block (Below.heap_alloc _ _ _ (by simp))).of_block (Below.heap_alloc _ _ _ (by simp))
  · rw [Below.heap_alloc _ _ _ (by simp)]
    exact heap_new_at _ _ _ (by simp)
  · exact ⟨zeros13, heap_new_at _ _ _ (by simp), rfl, fun i hi => zeros13_at i hi⟩
end
end Go.Proofs.Ytkloaeaepjoijaa

/-
  What begin works with: the boxes, the map, the row of what nodes give; plain facts on these.
  begin: a net at work, in rooms.
  Plain: if all that is due flows, what flows is a truth; and if there is a truth, no cut denies.
  truth: a truth in rooms, or a cut that denies.
  Plain: whether any cut denies, as a function that can be run; what it is good for.
-/
import Derived.Test.YtkloaeaepjoijaaT01
import Derived.Test.YtkloaeaepjoijaaT02
import Derived.BigRegion
import Derived.Deep.AppendLies
import Derived.IntWalk
import Derived.Laws.Rows
set_option linter.all false
namespace Go.Proofs.Ytkloaeaepjoijaa
section
open Go.RowKit Go.WalkArith
/-- An array of rooms. -/
structure RoomsV (rs : Array Value) (lo hi : Int → Int) : Prop where
  size : (Try.prog.info? 109).map (·.size) = some rs.size
  lo : ∀ i : Nat, i < 12 → rs[i * 2]? = some (.int .i64 (lo i))
  hi : ∀ i : Nat, i < 12 → rs[i * 2 + 1]? = some (.int .i64 (hi i))
/-- The angles' triangles and circles, as nodes. -/
def tOf (l : List Ang) (i : Int) : Int := (l[i.toNat]?.map (·.t)).getD (-1)
def cOf (l : List Ang) (i : Int) : Int := (l[i.toNat]?.map (·.c)).getD (-1)
def frL (l : List Ang) (i : Int) : Int := nodeOf (tOf l i) 0
def toL (l : List Ang) (i : Int) : Int := nodeOf (cOf l i) 5
/-- A valid net. -/
structure NetOk (l : List Ang) (T C : Int) : Prop where
  pos : 0 < l.length
  len : l.length ≤ 12
  t0 : 0 ≤ T
  t1 : T ≤ 5
  c0 : 0 ≤ C
  c1 : C ≤ 5
  ang : ∀ a ∈ l, -1 ≤ a.t ∧ a.t < T ∧ -1 ≤ a.c ∧ a.c < C ∧ 0 ≤ a.r ∧ a.r ≤ 40 ∧ 1 ≤ a.g ∧ a.g ≤ 3
theorem tOf_at {l : List Ang} {i : Nat} (h : i < l.length) : tOf l i = l[i].t := by simp [tOf, h]
theorem cOf_at {l : List Ang} {i : Nat} (h : i < l.length) : cOf l i = l[i].c := by simp [cOf, h]
theorem frL_at {l : List Ang} {i : Nat} (h : i < l.length) : frL l i = nodeOf l[i].t 0 := by rw [frL, tOf_at h]
theorem toL_at {l : List Ang} {i : Nat} (h : i < l.length) : toL l i = nodeOf l[i].c 5 := by rw [toL, cOf_at h]
theorem NetOk.fr {l : List Ang} {T C : Int} (h : NetOk l T C) {i : Nat} (hi : i < l.length) : (0 ≤ frL l i ∧ frL l i < T) ∨ frL l i = 10 := by
  rw [frL_at hi]
  have := h.ang l[i] (List.getElem_mem hi)
  unfold nodeOf
  split <;> omega
theorem NetOk.to {l : List Ang} {T C : Int} (h : NetOk l T C) {i : Nat} (hi : i < l.length) : (5 ≤ toL l i ∧ toL l i < 5 + C) ∨ toL l i = 10 := by
  rw [toL_at hi]
  have := h.ang l[i] (List.getElem_mem hi)
  unfold nodeOf
  split <;> omega
/-- Rooms of the first n angles that have numbers. -/
structure RoomsOk (n : Nat) (lo hi : Int → Int) : Prop where
  lo0 : ∀ i : Nat, i < n → 0 ≤ lo i
  le : ∀ i : Nat, i < n → lo i ≤ hi i
  hi1 : ∀ i : Nat, i < n → hi i ≤ 40
/-- What can flow at first, as far as it has been laid. -/
def initK (len : Nat) (fr to cap give : Int → Int) (k : Nat) (x y z : Int) : Int :=
  if z = -1 then (if x = 11 ∧ 0 ≤ y ∧ y < (k : Int) then max 0 (give y) else if y = 12 ∧ 0 ≤ x ∧ x < (k : Int) then max 0 (-give x) else 0)
  else if 0 ≤ z ∧ z < (len : Int) ∧ x = fr z ∧ y = to z ∧ fr z ≠ to z then cap z else 0
theorem initK_all (len : Nat) (fr to cap give : Int → Int) : initK len fr to cap give 11 = initF len fr to cap give := by
  funext x y z
  unfold initK initF
  split
  · by_cases h : x = 11 ∧ 0 ≤ y ∧ y ≤ 10
    · rw [if_pos ⟨h.1, h.2.1, by omega⟩, if_pos h]
    · rw [if_neg (fun h' => h ⟨h'.1, h'.2.1, by omega⟩), if_neg h]
      by_cases h2 : y = 12 ∧ 0 ≤ x ∧ x ≤ 10
      · rw [if_pos ⟨h2.1, h2.2.1, by omega⟩, if_pos h2]
      · rw [if_neg (fun h' => h2 ⟨h'.1, h'.2.1, by omega⟩), if_neg h2]
  · rfl
theorem initK_zero (fr to cap give : Int → Int) : initK 0 fr to cap give 0 = fun _ _ _ => 0 := by
  funext x y z
  unfold initK
  split
  · rw [if_neg (fun h => by omega), if_neg (fun h => by omega)]
  · rw [if_neg (fun h => by omega)]
theorem initK_give (len : Nat) (fr to cap give give' : Int → Int) : initK len fr to cap give 0 = initK len fr to cap give' 0 := by
  funext x y z
  unfold initK
  split
  · rw [if_neg (fun h => by omega), if_neg (fun h => by omega), if_neg (fun h => by omega), if_neg (fun h => by omega)]
  · rfl
theorem initK_angle (k : Nat) (fr to cap give : Int → Int) (h : fr k ≠ to k) : upd (initK k fr to cap give 0) (fr k) (to k) k (cap k) = initK (k + 1) fr to cap give 0 := by
  funext x y z
  unfold upd
  by_cases e : x = fr k ∧ y = to k ∧ z = k
  · rw [if_pos e]
    obtain ⟨rfl, rfl, rfl⟩ := e
    unfold initK
    rw [if_neg (by omega), if_pos ⟨by omega, by omega, rfl, rfl, h⟩]
  · rw [if_neg e]
    unfold initK
    split
    · rfl
    · by_cases e2 : 0 ≤ z ∧ z < ((k + 1 : Nat) : Int) ∧ x = fr z ∧ y = to z ∧ fr z ≠ to z
      · have hz : z ≠ (k : Int) := by rintro rfl; exact e ⟨e2.2.2.1, e2.2.2.2.1, rfl⟩
        rw [if_pos e2, if_pos ⟨e2.1, by omega, e2.2.2⟩]
      · rw [if_neg e2, if_neg (fun h => e2 ⟨h.1, by omega, h.2.2⟩)]
theorem initK_skip (k : Nat) (fr to cap give : Int → Int) (h : fr k = to k) : initK k fr to cap give 0 = initK (k + 1) fr to cap give 0 := by
  funext x y z
  unfold initK
  split
  · rfl
  · by_cases e2 : 0 ≤ z ∧ z < ((k + 1 : Nat) : Int) ∧ x = fr z ∧ y = to z ∧ fr z ≠ to z
    · have hz : z ≠ (k : Int) := by rintro rfl; exact e2.2.2.2.2 h
      rw [if_pos e2, if_pos ⟨e2.1, by omega, e2.2.2⟩]
    · rw [if_neg e2, if_neg (fun h => e2 ⟨h.1, by omega, h.2.2⟩)]
theorem initK_at11 (len : Nat) (fr to cap give : Int → Int) (k : Nat) (hk : k ≤ 10) : initK len fr to cap give k 11 k (-1) = 0 := by
  unfold initK
  rw [if_pos rfl, if_neg (fun h => by omega), if_neg (fun h => by omega)]
theorem initK_at12 (len : Nat) (fr to cap give : Int → Int) (k : Nat) (hk : k ≤ 10) : initK len fr to cap give k k 12 (-1) = 0 := by
  unfold initK
  rw [if_pos rfl, if_neg (fun h => by omega), if_neg (fun h => by omega)]
theorem initK_pos (len : Nat) (fr to cap give : Int → Int) (k : Nat) (hk : k ≤ 10) (h : 0 < give k) : upd (initK len fr to cap give k) 11 k (-1) (give k) = initK len fr to cap give (k + 1) := by
  funext x y z
  unfold upd
  by_cases e : x = 11 ∧ y = k ∧ z = -1
  · rw [if_pos e]
    obtain ⟨rfl, rfl, rfl⟩ := e
    unfold initK
    rw [if_pos rfl, if_pos ⟨rfl, by omega, by omega⟩]
    omega
  · rw [if_neg e]
    unfold initK
    split
    · rename_i hz
      by_cases a1 : x = 11 ∧ 0 ≤ y ∧ y < ((k + 1 : Nat) : Int)
      · have : y ≠ (k : Int) := fun hy => e ⟨a1.1, hy, hz⟩
        rw [if_pos a1, if_pos ⟨a1.1, a1.2.1, by omega⟩]
      · rw [if_neg a1, if_neg (fun h' => a1 ⟨h'.1, h'.2.1, by omega⟩)]
        by_cases a2 : y = 12 ∧ 0 ≤ x ∧ x < ((k + 1 : Nat) : Int)
        · rw [if_pos a2]
          by_cases a3 : x = (k : Int)
          · rw [if_neg (fun h' => by omega), a3]; omega
          · rw [if_pos ⟨a2.1, a2.2.1, by omega⟩]
        · rw [if_neg a2, if_neg (fun h' => a2 ⟨h'.1, h'.2.1, by omega⟩)]
    · rfl
theorem initK_neg (len : Nat) (fr to cap give : Int → Int) (k : Nat) (hk : k ≤ 10) (h : give k ≤ 0) : upd (initK len fr to cap give k) k 12 (-1) (0 - give k) = initK len fr to cap give (k + 1) := by
  funext x y z
  unfold upd
  by_cases e : x = k ∧ y = 12 ∧ z = -1
  · rw [if_pos e]
    obtain ⟨rfl, rfl, rfl⟩ := e
    unfold initK
    rw [if_pos rfl, if_neg (fun h => by omega), if_pos ⟨rfl, by omega, by omega⟩]
    omega
  · rw [if_neg e]
    unfold initK
    split
    · rename_i hz
      by_cases a1 : x = 11 ∧ 0 ≤ y ∧ y < ((k + 1 : Nat) : Int)
      · rw [if_pos a1]
        by_cases a3 : y = (k : Int)
        · rw [if_neg (fun h' => by omega), if_neg (fun h' => by omega), a3]; omega
        · rw [if_pos ⟨a1.1, a1.2.1, by omega⟩]
      · rw [if_neg a1, if_neg (fun h' => a1 ⟨h'.1, h'.2.1, by omega⟩)]
        by_cases a2 : y = 12 ∧ 0 ≤ x ∧ x < ((k + 1 : Nat) : Int)
        · have : x ≠ (k : Int) := fun hx => e ⟨hx, a2.1, hz⟩
          rw [if_pos a2, if_pos ⟨a2.1, a2.2.1, by omega⟩]
        · rw [if_neg a2, if_neg (fun h' => a2 ⟨h'.1, h'.2.1, by omega⟩)]
    · rfl
theorem give9_bd (T C : Int) (fr to lo : Int → Int) : ∀ (k : Nat) (v : Int), k ≤ 12 → (∀ i : Nat, i < k → 0 ≤ lo i ∧ lo i ≤ 40) → -72 - 40 * (k : Int) ≤ give9 k T C fr to lo v ∧ give9 k T C fr to lo v ≤ 36 + 40 * (k : Int) := by
  intro k v
  induction k with
  | zero => intro _ _; unfold give9 base; simp only [sumR]; split <;> (try split) <;> omega
  | succ k ih =>
    intro hk h
    have h1 := ih (by omega) (fun i hi => h i (by omega))
    have h2 := h k (by omega)
    have e : give9 (k + 1) T C fr to lo v = give9 k T C fr to lo v + ((if to k = v then lo k else 0) - (if fr k = v then lo k else 0)) := by unfold give9; simp only [sumR]; omega
    rw [e]
    split <;> split <;> omega
theorem give9_succ (T C : Int) (fr to lo : Int → Int) (k : Nat) (v : Int) : give9 (k + 1) T C fr to lo v = give9 k T C fr to lo v + ((if to k = v then lo k else 0) - (if fr k = v then lo k else 0)) := by
  unfold give9; simp only [sumR]; omega
/-- Block G is a row of thirteen integers. -/
def GiveAt (W : World) (G : Nat) (t : TypeId) (gv : Int → Int) : Prop :=
  ∃ cs, W.heap[G]? = some (.cells cs t (0, 0)) ∧ cs.size = 13 ∧ ∀ i : Nat, i < 13 → cs[i]? = some (.int .i64 (gv i))
def updG (gv : Int → Int) (i v : Int) : Int → Int := fun u => if u = i then v else gv u
section
variable {W W' : World} {G : Nat} {t : TypeId} {gv : Int → Int}
theorem GiveAt.cell (h : GiveAt W G t gv) {i : Nat} (hi : i < 13) : W.cell? ⟨G, i, none⟩ = some (.int .i64 (gv i)) := by
  obtain ⟨cs, hb, hs, hc⟩ := h
  simp [World.cell?, hb, hc i hi]
theorem GiveAt.frozen (h : GiveAt W G t gv) (i : Nat) : W.frozen? ⟨G, i, none⟩ = false := by
  obtain ⟨cs, hb, hs, hc⟩ := h
  simp [World.frozen?, hb]
theorem GiveAt.lt (h : GiveAt W G t gv) : G < W.heap.size := by
  obtain ⟨cs, hb, _⟩ := h
  exact (Array.getElem?_eq_some_iff.1 hb).1
theorem GiveAt.of_block (h : GiveAt W G t gv) (hb : W'.heap[G]? = W.heap[G]?) : GiveAt W' G t gv := by
  obtain ⟨cs, h1, h2⟩ := h
  exact ⟨cs, hb.trans h1, h2⟩
theorem GiveAt.congr {gv' : Int → Int} (h : GiveAt W G t gv) (he : ∀ i : Nat, i < 13 → gv' i = gv i) : GiveAt W G t gv' := by
  obtain ⟨cs, h1, h2, h3⟩ := h
  exact ⟨cs, h1, h2, fun i hi => by rw [he i hi]; exact h3 i hi⟩
theorem GiveAt.set (h : GiveAt W G t gv) {v : Nat} (x : Int) (hv : v < 13) : GiveAt (W.setCell ⟨G, v, none⟩ (.int .i64 x)) G t (updG gv v x) := by
  obtain ⟨cs, hb, hs, hc⟩ := h
  refine ⟨cs.setIfInBounds v (.int .i64 x), ?_, by simp [hs], fun i hi => ?_⟩
  · simp [World.setCell, Array.getElem?_modify, hb]
  · rw [Array.getElem?_setIfInBounds]
    by_cases e : v = i
    · subst e; simp [hs, hv, updG]
    · rw [if_neg e, hc i hi]
      unfold updG
      rw [if_neg (by omega)]
end
/-- What begin's loops keep. -/
structure BegEnv (B0 B1 B2 B3 B4 : Nat) (w : World) (A : Option Addr) (n cap : Nat) (T C : Int) (rs : Array Value) (W : World) (f : Int → Int → Int → Int) (gv : Int → Int) : Prop where
  ord : w.heap.size ≤ B0 ∧ B0 < B1 ∧ B1 < B2 ∧ B2 < B3 ∧ B3 < B4
  below : Below w.heap.size w W
  net : W.heap[B0]? = some (.cells #[.slice A n cap, .int .i64 T, .int .i64 C] 33 (0, 0))
  room : W.heap[B1]? = some (.cells rs 109 (0, 0))
  map : ArcMap W B2 f
  work : W.heap[B3]? = some (.cells #[.slice A n cap, .int .i64 T, .int .i64 C, .map (some B2)] 153 (0, 0))
  give : GiveAt W B4 107 gv
section
variable {B0 B1 B2 B3 B4 : Nat} {w W W' : World} {A : Option Addr} {n cap : Nat} {T C : Int} {rs : Array Value} {f : Int → Int → Int → Int} {gv : Int → Int}
theorem BegEnv.lt (h : BegEnv B0 B1 B2 B3 B4 w A n cap T C rs W f gv) : B4 < W.heap.size := h.give.lt
theorem BegEnv.keep (h : BegEnv B0 B1 B2 B3 B4 w A n cap T C rs W f gv) (hb : Below W.heap.size W W') : BegEnv B0 B1 B2 B3 B4 w A n cap T C rs W' f gv := by
  have hl := h.lt
  have ho := h.ord
  exact ⟨ho, h.below.trans (hb.mono (by omega)), (hb.block _ (by omega)).trans h.net, (hb.block _ (by omega)).trans h.room, h.map.of_block (hb.block _ (by omega)), (hb.block _ (by omega)).trans h.work, h.give.of_block (hb.block _ (by omega))⟩
theorem BegEnv.set (h : BegEnv B0 B1 B2 B3 B4 w A n cap T C rs W f gv) {v : Nat} (x : Int) (hv : v < 13) : BegEnv B0 B1 B2 B3 B4 w A n cap T C rs (W.setCell ⟨B4, v, none⟩ (.int .i64 x)) f (updG gv v x) := by
  have ho := h.ord
  have hs : ∀ j, j ≠ B4 → (W.setCell ⟨B4, v, none⟩ (.int .i64 x)).heap[j]? = W.heap[j]? := fun j hj => Below.heap_setCell _ _ _ _ hj
  exact ⟨ho, h.below.setCell (by simp; omega) _, (hs _ (by omega)).trans h.net, (hs _ (by omega)).trans h.room, h.map.of_block (hs _ (by omega)), (hs _ (by omega)).trans h.work, h.give.set x hv⟩
theorem BegEnv.mapped (h : BegEnv B0 B1 B2 B3 B4 w A n cap T C rs W f gv) {f' : Int → Int → Int → Int} (hm : ArcMap W' B2 f') (ho : MapOnly B2 W W') : BegEnv B0 B1 B2 B3 B4 w A n cap T C rs W' f' gv := by
  have ho' := h.ord
  exact ⟨ho', ho.below h.below (by omega), (ho.block _ (by omega)).trans h.net, (ho.block _ (by omega)).trans h.room, hm, (ho.block _ (by omega)).trans h.work, h.give.of_block (ho.block _ (by omega))⟩
theorem BegEnv.gives (h : BegEnv B0 B1 B2 B3 B4 w A n cap T C rs W f gv) {gv' : Int → Int} (he : ∀ i : Nat, i < 13 → gv' i = gv i) : BegEnv B0 B1 B2 B3 B4 w A n cap T C rs W f gv' :=
  ⟨h.ord, h.below, h.net, h.room, h.map, h.work, h.give.congr he⟩
theorem BegEnv.flow (h : BegEnv B0 B1 B2 B3 B4 w A n cap T C rs W f gv) {f' : Int → Int → Int → Int} (he : f = f') : BegEnv B0 B1 B2 B3 B4 w A n cap T C rs W f' gv := he ▸ h
theorem BegEnv.cells (h : BegEnv B0 B1 B2 B3 B4 w A n cap T C rs W f gv) : W.cell? ⟨B0, 0, none⟩ = some (.slice A n cap) ∧ W.cell? ⟨B0, 1, none⟩ = some (.int .i64 T) ∧ W.cell? ⟨B0, 2, none⟩ = some (.int .i64 C) ∧ W.cell? ⟨B3, 3, none⟩ = some (.map (some B2)) := by
  refine ⟨?_, ?_, ?_, ?_⟩ <;> simp [World.cell?, h.net, h.work]
theorem BegEnv.lo (h : BegEnv B0 B1 B2 B3 B4 w A n cap T C rs W f gv) {lo hi : Int → Int} (hr : RoomsV rs lo hi) {i : Nat} (hi' : i < 12) : W.cell? ⟨B1, i * 2, none⟩ = some (.int .i64 (lo i)) ∧ W.cell? ⟨B1, i * 2 + 1, none⟩ = some (.int .i64 (hi i)) := by
  constructor
  · simp [World.cell?, h.room, hr.lo i hi']
  · simp [World.cell?, h.room, hr.hi i hi']
def zeros13 : Array Value := #[.int .i64 0, .int .i64 0, .int .i64 0, .int .i64 0, .int .i64 0, .int .i64 0, .int .i64 0, .int .i64 0, .int .i64 0, .int .i64 0, .int .i64 0, .int .i64 0, .int .i64 0]
theorem zeros13_at (i : Nat) (h : i < 13) : zeros13[i]? = some (.int .i64 0) := by
  have : ∀ i : Fin 13, zeros13[i.1]? = some (.int .i64 0) := by intro i; match i with | ⟨0, _⟩ | ⟨1, _⟩ | ⟨2, _⟩ | ⟨3, _⟩ | ⟨4, _⟩ | ⟨5, _⟩ | ⟨6, _⟩ | ⟨7, _⟩ | ⟨8, _⟩ | ⟨9, _⟩ | ⟨10, _⟩ | ⟨11, _⟩ | ⟨12, _⟩ => rfl
  exact this ⟨i, h⟩
theorem heap_new_at (w : World) (o : Obj) (k : Nat) (hk : k = w.heap.size) : (w.alloc o).heap[k]? = some o := by subst hk; exact Go.heap_alloc_new w o
theorem BegEnv.start (w : World) (A : Option Addr) (n cap : Nat) (T C : Int) (rs : Array Value) :
    BegEnv w.heap.size (w.heap.size + 1) (w.heap.size + 1 + 1) (w.heap.size + 1 + 1 + 1) (w.heap.size + 1 + 1 + 1 + 1) w A n cap T C rs
      (((((w.alloc (.cells #[.slice A n cap, .int .i64 T, .int .i64 C] 33)).alloc (.cells rs 109)).alloc (.map #[] 0)).alloc (.cells #[.slice A n cap, .int .i64 T, .int .i64 C, .map (some (w.heap.size + 1 + 1))] 153)).alloc (.cells zeros13 107)) (fun _ _ _ => 0) (fun _ => 0) := by
  have hm : ArcMap (((w.alloc (.cells #[.slice A n cap, .int .i64 T, .int .i64 C] 33)).alloc (.cells rs 109)).alloc (.map #[] 0)) (w.heap.size + 1 + 1) (fun _ _ _ => 0) := by
    have := ArcMap.new ((w.alloc (.cells #[.slice A n cap, .int .i64 T, .int .i64 C] 33)).alloc (.cells rs 109))
    simpa using this
  have b1 := Below.refl w.heap.size w
  have b2 := b1.alloc (Nat.le_refl _) (.cells #[.slice A n cap, .int .i64 T, .int .i64 C] 33)
  have b3 := b2.alloc (by simp) (.cells rs 109)
  have b4 := b3.alloc (by simp; omega) (.map #[] 0)
  have b5 := b4.alloc (by simp; omega) (.cells #[.slice A n cap, .int .i64 T, .int .i64 C, .map (some (w.heap.size + 1 + 1))] 153)
  have b6 := b5.alloc (by simp; omega) (.cells zeros13 107)
  refine ⟨by omega, b6, ?_, ?_, ?_, ?_, ?_⟩
  · rw [Below.heap_alloc _ _ _ (by simp; try omega), Below.heap_alloc _ _ _ (by simp; try omega), Below.heap_alloc _ _ _ (by simp; try omega), Below.heap_alloc _ _ _ (by simp; try omega)]
    exact heap_new_at _ _ _ rfl
  · rw [Below.heap_alloc _ _ _ (by simp; try omega), Below.heap_alloc _ _ _ (by simp; try omega), Below.heap_alloc _ _ _ (by simp; try omega)]
    exact heap_new_at _ _ _ (by simp)
  · exact (hm.of_block (Below.heap_alloc _ _ _ (by simp))).of_block (Below.heap_alloc _ _ _ (by simp))
  · rw [Below.heap_alloc _ _ _ (by simp)]
    exact heap_new_at _ _ _ (by simp)
  · exact ⟨zeros13, heap_new_at _ _ _ (by simp), rfl, fun i hi => zeros13_at i hi⟩
end
end
end Go.Proofs.Ytkloaeaepjoijaa
namespace Go.Proofs.Ytkloaeaepjoijaa
section
open Go.RowKit Go.WalkArith
def gv1 (k : Nat) (v : Int) : Int := if 0 ≤ v ∧ v < (k : Int) then 36 else 0
def gv2 (T : Int) (k : Nat) (v : Int) : Int := if 0 ≤ v ∧ v < T then 36 else if 5 ≤ v ∧ v < 5 + (k : Int) then -72 else 0
def Beg1 (B0 B1 B2 B3 B4 : Nat) (w : World) (A : Option Addr) (n cap : Nat) (T C : Int) (rs : Array Value) (i : Value) (wr : World) : Prop :=
  ∃ k : Nat, (k : Int) ≤ T ∧ i = .int .i64 k ∧ BegEnv B0 B1 B2 B3 B4 w A n cap T C rs wr (fun _ _ _ => 0) (gv1 k)
def Beg2 (B0 B1 B2 B3 B4 : Nat) (w : World) (A : Option Addr) (n cap : Nat) (T C : Int) (rs : Array Value) (i : Value) (wr : World) : Prop :=
  ∃ k : Nat, (k : Int) ≤ C ∧ i = .int .i64 k ∧ BegEnv B0 B1 B2 B3 B4 w A n cap T C rs wr (fun _ _ _ => 0) (gv2 T k)
theorem gv2_step (T : Int) (k : Nat) (h : T ≤ 5) (i : Nat) : gv2 T (k + 1) i = updG (gv2 T k) ((5 + k : Nat) : Int) (-72) i := by
  unfold updG
  by_cases e : (i : Int) = ((5 + k : Nat) : Int)
  · rw [if_pos e, e]; unfold gv2; rw [if_neg (by omega), if_pos (by omega)]
  · rw [if_neg e]; unfold gv2; (repeat' split) <;> omega
theorem give9_zero {T C : Int} {k : Nat} (h : C = k) (fr to lo : Int → Int) (v : Int) : give9 0 T C fr to lo v = gv2 T k v := by
  subst h
  unfold gv2 give9 base
  simp only [sumR]
  (repeat' split) <;> omega
theorem updG_two (G : Int → Int) (p q L i : Int) : G i + ((if q = i then L else 0) - (if p = i then L else 0)) = updG (updG G p (G p - L)) q (updG G p (G p - L) q + L) i := by
  unfold updG
  by_cases e1 : i = q
  · subst e1
    by_cases e2 : i = p
    · subst e2; simp; try omega
    · rw [if_pos rfl, if_neg (fun h => e2 h.symm), if_pos rfl, if_neg e2]; omega
  · rw [if_neg e1, if_neg (fun h => e1 h.symm)]
    by_cases e2 : i = p
    · subst e2; simp; try omega
    · rw [if_neg e2, if_neg (fun h => e2 h.symm)]; omega
def Beg3 (B0 B1 B2 B3 B4 : Nat) (w : World) (A : Option Addr) (n cap : Nat) (T C : Int) (rs : Array Value) (l : List Ang) (lo hi : Int → Int) (i : Value) (wr : World) : Prop :=
  ∃ k : Nat, k ≤ n ∧ i = .int .i64 k ∧ BegEnv B0 B1 B2 B3 B4 w A n cap T C rs wr (initK k (frL l) (toL l) (fun i => hi i - lo i) (fun _ => 0) 0) (give9 k T C (frL l) (toL l) lo)
def gv4 (n : Nat) (T C : Int) (fr to lo : Int → Int) (k : Nat) (v : Int) : Int := if v = 10 then - sumR k (fun u => give9 n T C fr to lo u) else give9 n T C fr to lo v
theorem gv4_zero (n : Nat) (T C : Int) (fr to lo : Int → Int) (i : Nat) : gv4 n T C fr to lo 0 i = updG (give9 n T C fr to lo) ((10 : Nat) : Int) 0 i := by
  unfold gv4 updG
  rw [show ((10 : Nat) : Int) = 10 from rfl]
  by_cases e : (i : Int) = 10
  · rw [if_pos e, if_pos e]; simp [sumR]
  · rw [if_neg e, if_neg e]
theorem gv4_step (n : Nat) (T C : Int) (fr to lo : Int → Int) (k : Nat) (i : Nat) : gv4 n T C fr to lo (k + 1) i = updG (gv4 n T C fr to lo k) ((10 : Nat) : Int) (- sumR k (fun u => give9 n T C fr to lo u) - give9 n T C fr to lo k) i := by
  unfold updG
  rw [show ((10 : Nat) : Int) = 10 from rfl]
  by_cases e : (i : Int) = 10
  · rw [if_pos e]; unfold gv4; rw [if_pos e]; simp only [sumR]; omega
  · rw [if_neg e]; unfold gv4; rw [if_neg e, if_neg e]
theorem gv4_all (n : Nat) (T C : Int) (fr to lo : Int → Int) (v : Int) : gv4 n T C fr to lo 10 v = giveN n T C fr to lo v := rfl
theorem sumR_bd {k : Nat} {h : Nat → Int} {B : Int} (hb : ∀ i, i < k → -B ≤ h i ∧ h i ≤ B) : -(k * B) ≤ sumR k h ∧ sumR k h ≤ k * B := by
  induction k with
  | zero => simp [sumR]
  | succ k ih =>
    have h1 := ih (fun i hi => hb i (by omega))
    have h2 := hb k (by omega)
    simp only [sumR]
    have e : ((k + 1 : Nat) : Int) * B = k * B + B := by rw [Int.natCast_add, Int.add_mul]; simp
    rw [e]
    omega
/-- needs, as begin calls it. -/
theorem needs_any (g b len : Nat) (fr to cap G : Int → Int) (k : Nat) (w : World) (hk : k ≤ 10) (h0 : -1000000 ≤ G k) (h1 : G k ≤ 1000000) (hg : w.cell? ⟨g, 3, none⟩ = some (.map (some b))) (hm : ArcMap w b (initK len fr to cap G k)) :
    Calls Try.prog 117 #[.pointer (some ⟨g, 0, none⟩), .int .i64 k, .int .i64 (G k)] w fun e w' => e = .returned (.tuple #[]) ∧ ArcMap w' b (initK len fr to cap G (k + 1)) ∧ MapOnly b w w' := by
  by_cases hp : 0 < G k
  · have e := initK_at11 len fr to cap G k hk
    refine (needs_pos g b k (G k) _ w hp h1 (by omega) (by omega) hg hm (by rw [e]; omega) (by rw [e]; omega)).mono ?_
    rintro e' w' ⟨rfl, h2, h3⟩
    rw [e, Int.zero_add, initK_pos len fr to cap G k hk hp] at h2
    exact ⟨rfl, h2, h3⟩
  · have e := initK_at12 len fr to cap G k hk
    refine (needs_neg g b k (G k) _ w (by omega) h0 (by omega) (by omega) hg hm (by rw [e]; omega) (by rw [e]; omega)).mono ?_
    rintro e' w' ⟨rfl, h2, h3⟩
    rw [e, initK_neg len fr to cap G k hk (by omega)] at h2
    exact ⟨rfl, h2, h3⟩
def Beg4 (B0 B1 B2 B3 B4 : Nat) (w : World) (A : Option Addr) (n cap : Nat) (T C : Int) (rs : Array Value) (l : List Ang) (lo hi : Int → Int) (i : Value) (wr : World) : Prop :=
  ∃ k : Nat, k ≤ 10 ∧ i = .int .i64 k ∧ BegEnv B0 B1 B2 B3 B4 w A n cap T C rs wr (initK n (frL l) (toL l) (fun i => hi i - lo i) (giveN n T C (frL l) (toL l) lo) k) (gv4 n T C (frL l) (toL l) lo k)
/-- What begin hands back. -/
def BegPost (A : Option Addr) (n cap : Nat) (T C : Int) (l : List Ang) (lo hi : Int → Int) (w : World) (e : Ending) (w' : World) : Prop :=
  ∃ (g b : Nat) (due : Int), e = .returned (.tuple #[.pointer (some ⟨g, 0, none⟩), .int .i64 due]) ∧ Below w.heap.size w w' ∧ w.heap.size ≤ b ∧ w.heap.size ≤ g ∧
    w'.cell? ⟨g, 0, none⟩ = some (.slice A n cap) ∧ w'.cell? ⟨g, 3, none⟩ = some (.map (some b)) ∧
    ArcMap w' b (initF n (frL l) (toL l) (fun i => hi i - lo i) (giveN n T C (frL l) (toL l) lo)) ∧ due = sumR 11 (fun v => max 0 (giveN n T C (frL l) (toL l) lo v))
theorem sum_max_bd {k : Nat} {h : Nat → Int} {B : Int} (h0 : 0 ≤ B) (hb : ∀ i, i < k → h i ≤ B) : 0 ≤ sumR k (fun v => max 0 (h v)) ∧ sumR k (fun v => max 0 (h v)) ≤ k * B := by
  constructor
  · exact sumR_nonneg fun i _ => by omega
  · exact (sumR_bd (B := B) (fun i hi => ⟨by omega, by have := hb i hi; omega⟩)).2
set_option maxRecDepth 100000 in
set_option maxHeartbeats 4000000 in
theorem begin_any (b o n cap : Nat) (T C : Int) (l : List Ang) (rs : Array Value) (lo hi : Int → Int) (w : World) (hl : l.length = n) (hok : NetOk l T C) (hA : AngsAt w (some ⟨b, o, none⟩) l) (hrs : RoomsV rs lo hi) (hro : RoomsOk n lo hi) :
    Calls Try.prog 92 #[.agg #[.slice (some ⟨b, o, none⟩) n cap, .int .i64 T, .int .i64 C], .agg rs] w (BegPost (some ⟨b, o, none⟩) n cap T C l lo hi w) := by
  have HR := Lib.hid hrs
  have HO := Lib.hid hok
  have HL := Lib.hid hl
  have HRO := Lib.hid hro
  have ht0 := hok.t0
  have ht1 := hok.t1
  have hc0 := hok.c0
  have hc1 := hok.c1
  have HA := Lib.hid hA
  clear hrs hok hl hro hA
  have hmm := @run_makeMap Try.prog
  have hst := Lib.hid (BegEnv.start w (some ⟨b, o, none⟩) n cap T C rs)
  unfold zeros13 at hst
  go_enter Try.func92, Try.ntmps92
  go_wp2_with fail
  generalize (((((w.alloc (.cells #[.slice (some ⟨b, o, none⟩) n cap, .int .i64 T, .int .i64 C] 33)).alloc (.cells rs 109)).alloc (.map #[] 0)).alloc (.cells #[.slice (some ⟨b, o, none⟩) n cap, .int .i64 T, .int .i64 C, .map (some (w.heap.size + 1 + 1))] 153)).alloc (.cells #[.int .i64 0, .int .i64 0, .int .i64 0, .int .i64 0, .int .i64 0, .int .i64 0, .int .i64 0, .int .i64 0, .int .i64 0, .int .i64 0, .int .i64 0, .int .i64 0, .int .i64 0] 107)) = W1 at hst ⊢
  generalize w.heap.size + 1 + 1 + 1 + 1 = B4 at hst ⊢
  generalize w.heap.size + 1 + 1 + 1 = B3 at hst ⊢
  generalize w.heap.size + 1 + 1 = B2 at hst ⊢
  generalize w.heap.size + 1 = B1 at hst ⊢
  have hB := hst.out.ord
  have hBN : w.heap.size ≤ w.heap.size := Nat.le_refl _
  clear hmm
  obtain ⟨B0, hB0⟩ : ∃ B0, w.heap.size = B0 := ⟨_, rfl⟩
  rw [hB0] at hst ⊢
  have hB' : w.heap.size ≤ B0 := by omega
  rw [hB0] at hB
  clear hB0 hBN
  go_loopw [21] (Beg1 B0 B1 B2 B3 B4 w (some ⟨b, o, none⟩) n cap T C rs) (fun i _ => T.toNat - (intOf i).toNat)
  case atStart => exact ⟨0, by omega, rfl, hst.out.gives (fun i _ => by unfold gv1; rw [if_neg (by omega)])⟩
  case round =>
    clear hst
    obtain ⟨k, hk, rfl, hE⟩ := hrel
    by_cases hlt : (k : Int) < T
    · have hc := hE.give.cell (i := k) (by omega)
      have hf := hE.give.frozen k
      have hg : gv1 k k = 0 := by unfold gv1; rw [if_neg (by omega)]
      rw [hg] at hc
      clear hg
      have hk13 : (k : Int) < 13 := by omega
      have HE := Lib.hid hE
      clear hE
      go_wp2
      go_roundw
      case rel => 
        exact ⟨k + 1, by omega, by go_num, (HE.out.set 36 (by omega)).gives (fun i hi => by unfold gv1 updG; by_cases e : (i : Int) = k <;> simp [e] <;> (repeat' split) <;> omega)⟩
      case measure => simp [intOf]; omega
    · have HE := Lib.hid hE
      have cs := hE.cells
      obtain ⟨q0, q1, q2, q3⟩ := cs
      have hlt' : decide ((k : Int) < T) = false := by simpa using hlt
      have hkT : T = k := by omega
      have HK := Lib.hid hkT
      clear hE hkT
      go_wp2
      obtain ⟨wo, rfl⟩ : ∃ wo : World, wo = wr := ⟨_, rfl⟩
      go_loopw [32] (Beg2 B0 B1 B2 B3 B4 w (some ⟨b, o, none⟩) n cap T C rs) (fun i _ => C.toNat - (intOf i).toNat)
      case atStart => exact ⟨0, by omega, rfl, HE.out.gives (fun i _ => by unfold gv1 gv2; rw [HK.out]; (repeat' split) <;> omega)⟩
      case round =>
        clear HE q0 q1 q2 q3 HK hlt hlt' hk
        obtain ⟨k, hk, rfl, hE⟩ := hrel
        by_cases hlt : (k : Int) < C
        · have hc := hE.give.cell (i := 5 + k) (by omega)
          have hf := hE.give.frozen (5 + k)
          have hg : gv2 T k ((5 + k : Nat) : Int) = 0 := by unfold gv2; rw [if_neg (by omega), if_neg (by omega)]
          rw [hg] at hc
          clear hg
          have hk13 : (k : Int) < 8 := by omega
          have hlt2 : T ≤ 5 := ht1
          have HE := Lib.hid hE
          clear hE
          go_wp2
          go_roundw
          case rel =>
            exact ⟨k + 1, by omega, by go_num, (HE.out.set (v := 5 + k) (-72) (by omega)).gives (fun i hi => gv2_step T k hlt2 i)⟩
          case measure => simp [intOf]; omega
        · have HE := Lib.hid hE
          have cs := hE.cells
          obtain ⟨q0, q1, q2, q3⟩ := cs
          have hlt' : decide ((k : Int) < C) = false := by simpa using hlt
          have hkC : C = k := by omega
          have HK := Lib.hid hkC
          clear hE hkC
          go_wp2
          obtain ⟨wo2, rfl⟩ : ∃ wo2 : World, wo2 = wr := ⟨_, rfl⟩
          go_loopw [45] (Beg3 B0 B1 B2 B3 B4 w (some ⟨b, o, none⟩) n cap T C rs l lo hi) (fun i _ => n - (intOf i).toNat)
          case atStart => exact ⟨0, by omega, rfl, (HE.out.gives (fun i _ => give9_zero HK.out _ _ _ _)).flow (by rw [initK_zero])⟩
          case round =>
            clear HE q0 q1 q2 q3 HK hlt hlt' hk
            obtain ⟨k, hk, rfl, hE⟩ := hrel
            by_cases hlt : k < n
            · have hlk : k < l.length := by rw [HL.out]; exact hlt
              have hn12 : n ≤ 12 := by rw [← HL.out]; exact HO.out.len
              obtain ⟨b', o', hAe, hAs⟩ := HA.out.resolve_left (fun h => by rw [h] at hlk; simp at hlk)
              obtain ⟨rfl, rfl⟩ : b = b' ∧ o = o' := by simpa using hAe
              have hak := hAs k hlk
              have han := HO.out.ang l[k] (List.getElem_mem hlk)
              have hbl := World.block_lt_of_cell? w _ hak.1
              have hak2 : AngAt wr b (o + k * 4) l[k] := by
                have hc := fun i => hE.below.cell (p := ⟨b, i, none⟩) hbl
                exact ⟨(hc _).trans hak.1, (hc _).trans hak.2.1, (hc _).trans hak.2.2.1, (hc _).trans hak.2.2.2⟩
              have harc := arc_any b o n cap T C k l[k] wr hlt (by omega) hak2 (by omega) (by omega) (by omega) (by omega)
              rw [← frL_at hlk, ← toL_at hlk] at harc
              have hfr := HO.out.fr hlk
              have hto := HO.out.to hlk
              obtain ⟨p, hp⟩ : ∃ p : Nat, frL l k = p := ⟨(frL l k).toNat, by omega⟩
              obtain ⟨q, hq⟩ : ∃ q : Nat, toL l k = q := ⟨(toL l k).toNat, by omega⟩
              rw [hp, hq] at harc
              have hp10 : p ≤ 10 := by omega
              have hq10 : q ≤ 10 := by omega
              have HP := Lib.hid hp
              have HQ := Lib.hid hq
              have HARC := Lib.hid harc
              have cs := hE.cells
              obtain ⟨q0, q1, q2, q3⟩ := cs
              have HE := Lib.hid hE
              have hlt' : decide ((k : Int) < (n : Int)) = true := by simpa using hlt
              clear hfr hto hp hq harc hE hak hak2 han hAs hAe
              go_wp2_with (go_at_call 69; refine HARC.out.mono ?_; rintro e w1 ⟨rfl, hb1⟩)
              have hx0 := Lib.hid (HE.out.keep (hb1.trans (((Below.refl _ w1).alloc (Nat.le_refl _) (.cells #[.int .i64 p, .int .i64 q, .int .i64 k] 112)).mono hb1.size)))
              have hblk := Lib.hid (Go.heap_alloc_new w1 (.cells #[.int .i64 p, .int .i64 q, .int .i64 k] 112))
              generalize w1.alloc (.cells #[.int .i64 p, .int .i64 q, .int .i64 k] 112) = w2 at hx0 hblk ⊢
              obtain ⟨Ba, hBa⟩ : ∃ Ba, w1.heap.size = Ba := ⟨_, rfl⟩
              rw [hBa] at hblk ⊢
              clear hBa hb1 q0 q1 q2 q3
              have a0 : w2.cell? ⟨Ba, 0, none⟩ = some (.int .i64 p) := by simp [World.cell?, hblk.out]
              have a1 : w2.cell? ⟨Ba, 1, none⟩ = some (.int .i64 q) := by simp [World.cell?, hblk.out]
              have a2 : w2.cell? ⟨Ba, 2, none⟩ = some (.int .i64 k) := by simp [World.cell?, hblk.out]
              have hne : Ba ≠ B4 := by
                rintro rfl
                obtain ⟨cs, hcs, h13, _⟩ := hx0.out.give
                rw [hblk.out] at hcs
                cases hcs
              have r0 := (hx0.out.lo HR.out (i := k) (by omega)).1
              have r1 := (hx0.out.lo HR.out (i := k) (by omega)).2
              have g0 := hx0.out.give.cell (i := p) (by omega)
              have z0 := hx0.out.give.frozen p
              have bd0 := give9_bd T C (frL l) (toL l) lo k p (by omega) (fun i hi' => ⟨HRO.out.lo0 i (by omega), by have := HRO.out.le i (by omega); have := HRO.out.hi1 i (by omega); omega⟩)
              have bl0 := HRO.out.lo0 k hlt
              have bl1 := HRO.out.le k hlt
              have bl2 := HRO.out.hi1 k hlt
              have i1 : (0 : Int) ≤ (k : Int) := by omega
              have i2 : (k : Int) < 12 := by omega
              have i3 : (0 : Int) ≤ (p : Int) := by omega
              have i4 : (p : Int) < 13 := by omega
              have wp1 : IntKind.i64.wrap (give9 k T C (frL l) (toL l) lo p - lo k) = give9 k T C (frL l) (toL l) lo p - lo k := IntWalk.i64_in _ (by omega)
              go_region
              have hx1 := Lib.hid ((hx0.out.set (v := p) (give9 k T C (frL l) (toL l) lo p - lo k) (by omega)).keep (Below.refl _ _).drew)
              have hblk1 := Lib.hid ((show (w2.setCell ⟨B4, p, none⟩ (.int .i64 (give9 k T C (frL l) (toL l) lo p - lo k))).drew.heap[Ba]? = w2.heap[Ba]? from Below.heap_setCell _ _ _ _ hne).trans hblk.out)
              generalize (w2.setCell ⟨B4, p, none⟩ (.int .i64 (give9 k T C (frL l) (toL l) lo p - lo k))).drew = w3 at hx1 hblk1 ⊢
              clear hx0 hblk a0 a1 a2 r0 r1 g0 z0 wp1 w2
              obtain ⟨g3, hg3⟩ : ∃ g3, updG (give9 k T C (frL l) (toL l) lo) p (give9 k T C (frL l) (toL l) lo p - lo k) = g3 := ⟨_, rfl⟩
              rw [hg3] at hx1
              have a0 : w3.cell? ⟨Ba, 0, none⟩ = some (.int .i64 p) := by simp [World.cell?, hblk1.out]
              have a1 : w3.cell? ⟨Ba, 1, none⟩ = some (.int .i64 q) := by simp [World.cell?, hblk1.out]
              have a2 : w3.cell? ⟨Ba, 2, none⟩ = some (.int .i64 k) := by simp [World.cell?, hblk1.out]
              have r0 := (hx1.out.lo HR.out (i := k) (by omega)).1
              have r1 := (hx1.out.lo HR.out (i := k) (by omega)).2
              have g0 := hx1.out.give.cell (i := q) (by omega)
              have z0 := hx1.out.give.frozen q
              have bd1 := give9_bd T C (frL l) (toL l) lo k q (by omega) (fun i hi' => ⟨HRO.out.lo0 i (by omega), by have := HRO.out.le i (by omega); have := HRO.out.hi1 i (by omega); omega⟩)
              have bd2 : -1000 ≤ g3 q ∧ g3 q ≤ 1000 := by rw [← hg3]; unfold updG; split <;> omega
              have i5 : (0 : Int) ≤ (q : Int) := by omega
              have i6 : (q : Int) < 13 := by omega
              have HG3 := Lib.hid hg3
              clear hg3 bd0 bd1
              have wp1 : IntKind.i64.wrap (g3 q + lo k) = g3 q + lo k := IntWalk.i64_in _ (by omega)
              go_wp2
              go_region
              have hx2 := Lib.hid ((hx1.out.set (v := q) (g3 q + lo k) (by omega)).keep (Below.refl _ _).drew)
              have hblk2 := Lib.hid ((show (w3.setCell ⟨B4, q, none⟩ (.int .i64 (g3 q + lo k))).drew.heap[Ba]? = w3.heap[Ba]? from Below.heap_setCell _ _ _ _ hne).trans hblk1.out)
              generalize (w3.setCell ⟨B4, q, none⟩ (.int .i64 (g3 q + lo k))).drew = w4 at hx2 hblk2 ⊢
              clear hx1 hblk1 a0 a1 a2 r0 r1 g0 z0 wp1 w3
              have a0 : w4.cell? ⟨Ba, 0, none⟩ = some (.int .i64 p) := by simp [World.cell?, hblk2.out]
              have a1 : w4.cell? ⟨Ba, 1, none⟩ = some (.int .i64 q) := by simp [World.cell?, hblk2.out]
              have a2 : w4.cell? ⟨Ba, 2, none⟩ = some (.int .i64 k) := by simp [World.cell?, hblk2.out]
              have hgs : ∀ i : Nat, give9 (k + 1) T C (frL l) (toL l) lo i = updG g3 q (g3 q + lo k) i := by
                intro i
                rw [give9_succ, HP.out, HQ.out, ← HG3.out]
                exact updG_two _ _ _ _ _
              have HGS := Lib.hid hgs
              clear hgs
              by_cases hpq : p = q
              · subst hpq
                have hb0 : ((p : Int) != p) = false := by simp
                go_wp2
                go_roundw
                case rel =>
                  exact ⟨k + 1, by omega, by go_num, (hx2.out.gives (fun i _ => HGS.out i)).flow (initK_skip k _ _ _ _ (HP.out.trans HQ.out.symm))⟩
                case measure => simp [intOf]; omega
              · have hb0 : ((p : Int) != q) = true := by simp; omega
                have r0 := (hx2.out.lo HR.out (i := k) (by omega)).1
                have r1 := (hx2.out.lo HR.out (i := k) (by omega)).2
                have c3 := hx2.out.cells.2.2.2
                have hkey : ∃ l, keyOf Try.prog 112 (arcV p q k) = some l := arc_key _ _ _ (wf_i64 ⟨by omega, by omega⟩) (wf_i64 ⟨by omega, by omega⟩) (wf_i64 ⟨by omega, by omega⟩)
                have hmd : ArcMap w4.drew B2 (initK k (frL l) (toL l) (fun i => hi i - lo i) (fun _ => 0) 0) := hx2.out.map.of_block rfl
                obtain ⟨w5, hrun, hm5, ho5⟩ := hmd.run_mapUpdate hkey (hi k - lo k)
                unfold arcV at hrun
                have hx3 := Lib.hid ((hx2.out.keep (Below.refl _ _).drew).mapped hm5 ho5)
                have wp1 : IntKind.i64.wrap (hi k - lo k) = hi k - lo k := IntWalk.i64_in _ (by omega)
                clear hkey hmd hm5 ho5
                go_wp2
                go_region
                go_wp2
                go_roundw
                case rel =>
                  exact ⟨k + 1, by omega, by go_num, (hx3.out.gives (fun i _ => HGS.out i)).flow (by have := initK_angle k (frL l) (toL l) (fun i => hi i - lo i) (fun _ => 0) (by rw [HP.out, HQ.out]; omega); rw [HP.out, HQ.out] at this; exact this)⟩
                case measure => simp [intOf]; omega
            · have hkn : k = n := by omega
              have hlt' : decide ((k : Int) < (n : Int)) = false := by simp; omega
              have z10 := hE.give.frozen 10
              have c10 := hE.give.cell (i := 10) (by omega)
              have HE := Lib.hid hE
              have HK := Lib.hid hkn
              clear hE hkn
              go_wp2
              have hn12 : n ≤ 12 := by rw [← HL.out]; exact HO.out.len
              have hgb : ∀ v : Nat, -1000 ≤ give9 n T C (frL l) (toL l) lo v ∧ give9 n T C (frL l) (toL l) lo v ≤ 1000 := fun v => by
                have := give9_bd T C (frL l) (toL l) lo n v hn12 (fun i hi' => ⟨HRO.out.lo0 i (by omega), by have := HRO.out.le i (by omega); have := HRO.out.hi1 i (by omega); omega⟩)
                omega
              have HGB := Lib.hid hgb
              clear hgb
              have hE4 := Lib.hid ((((HK.out ▸ HE.out : BegEnv B0 B1 B2 B3 B4 w (some ⟨b, o, none⟩) n cap T C rs wr (initK n (frL l) (toL l) (fun i => hi i - lo i) (fun _ => 0) 0) (give9 n T C (frL l) (toL l) lo)).set (v := 10) 0 (by omega)).gives (fun i _ => gv4_zero n T C (frL l) (toL l) lo i)).flow (initK_give n _ _ _ _ (giveN n T C (frL l) (toL l) lo)))
              generalize wr.setCell ⟨B4, 10, none⟩ (.int .i64 0) = wx at hE4 ⊢
              clear z10 c10 HE
              go_loopw [94] (Beg4 B0 B1 B2 B3 B4 w (some ⟨b, o, none⟩) n cap T C rs l lo hi) (fun i _ => 10 - (intOf i).toNat)
              case atStart => exact ⟨0, by omega, rfl, hE4.out⟩
              case round =>
                clear hE4 hlt hlt' HK hk
                obtain ⟨k, hk, rfl, hE⟩ := hrel
                by_cases hlt : k < 10
                · have hlt' : decide ((k : Int) < 10) = true := by simp; omega
                  have hb1 := HGB.out k
                  have hb2 := sumR_bd (k := k) (h := fun u => give9 n T C (frL l) (toL l) lo u) (B := 1000) (fun i _ => HGB.out i)
                  obtain ⟨G, hG⟩ : ∃ G, give9 n T C (frL l) (toL l) lo k = G := ⟨_, rfl⟩
                  obtain ⟨Sm, hS⟩ : ∃ Sm, sumR k (fun u => give9 n T C (frL l) (toL l) lo u) = Sm := ⟨_, rfl⟩
                  rw [hG] at hb1
                  rw [hS] at hb2
                  have ck := hE.give.cell (i := k) (by omega)
                  have c10 := hE.give.cell (i := 10) (by omega)
                  rw [show gv4 n T C (frL l) (toL l) lo k k = G from by unfold gv4; rw [if_neg (by omega)]; exact hG] at ck
                  rw [show gv4 n T C (frL l) (toL l) lo k ((10 : Nat) : Int) = -Sm from by unfold gv4; rw [if_pos (by omega), hS]] at c10
                  have z10 := hE.give.frozen 10
                  have hE1 := (hE.set (v := 10) (-Sm - G) (by omega)).gives (gv' := gv4 n T C (frL l) (toL l) lo (k + 1)) (fun i _ => by rw [gv4_step, hS, hG])
                  have hGN : giveN n T C (frL l) (toL l) lo k = G := by unfold giveN; rw [if_neg (by omega)]; exact hG
                  have hnd := needs_any B3 B2 n (frL l) (toL l) (fun i => hi i - lo i) (giveN n T C (frL l) (toL l) lo) k _ (by omega) (by rw [hGN]; omega) (by rw [hGN]; omega) hE1.cells.2.2.2 hE1.map
                  rw [hGN] at hnd
                  have HE1 := Lib.hid hE1
                  have HND := Lib.hid hnd
                  have hi0 : (0 : Int) ≤ (k : Int) := by omega
                  have hi1 : (k : Int) < 10 := by omega
                  have hb3 : -10000 ≤ Sm ∧ Sm ≤ 10000 := by omega
                  clear hE1 hnd hE hG hS hGN hb2
                  go_wp2_with fail
                  refine HND.out.mono ?_
                  rintro e w' ⟨rfl, hm', ho'⟩
                  have hx := Lib.hid (HE1.out.mapped hm' ho')
                  clear hm' ho'
                  go_wp2_with fail
                  go_roundw
                  case rel => exact ⟨k + 1, by omega, by go_num, hx.out⟩
                  case measure => simp [intOf]; omega
                · have hlt' : decide ((k : Int) < 10) = false := by simp; omega
                  obtain rfl : k = 10 := by omega
                  have c10 := hE.give.cell (i := 10) (by omega)
                  rw [gv4_all] at c10
                  obtain ⟨G, hG⟩ : ∃ G, giveN n T C (frL l) (toL l) lo ((10 : Nat) : Int) = G := ⟨_, rfl⟩
                  have hb2 := sumR_bd (k := 10) (h := fun u => give9 n T C (frL l) (toL l) lo u) (B := 1000) (fun i _ => HGB.out i)
                  have hGb : -10000 ≤ G ∧ G ≤ 10000 := by rw [← hG]; unfold giveN; rw [if_pos (by omega)]; omega
                  rw [hG] at c10
                  have hnd := needs_any B3 B2 n (frL l) (toL l) (fun i => hi i - lo i) (giveN n T C (frL l) (toL l) lo) 10 wr (by omega) (by rw [hG]; omega) (by rw [hG]; omega) hE.cells.2.2.2 hE.map
                  rw [hG] at hnd
                  have HND := Lib.hid hnd
                  have HE := Lib.hid hE
                  clear hnd hE hG hb2
                  go_wp2_with fail
                  refine HND.out.mono ?_
                  rintro e w' ⟨rfl, hm', ho'⟩
                  have hx := Lib.hid ((HE.out.mapped hm' ho').flow (initK_all n _ _ _ _))
                  clear hm' ho' HND HE c10
                  go_wp2_with fail
                  have hNb : ∀ v : Nat, v < 11 → -10000 ≤ giveN n T C (frL l) (toL l) lo v ∧ giveN n T C (frL l) (toL l) lo v ≤ 10000 := fun v hv => by
                    have h1 := HGB.out v
                    have hb2 := sumR_bd (k := 10) (h := fun u => give9 n T C (frL l) (toL l) lo u) (B := 1000) (fun i _ => HGB.out i)
                    unfold giveN
                    split <;> omega
                  have HNB := Lib.hid hNb
                  clear hNb
                  go_loop [5, 115] (fun d i => ∃ k : Nat, k ≤ 11 ∧ i = .int .i64 k ∧ d = .int .i64 (sumR k (fun v => max 0 (giveN n T C (frL l) (toL l) lo v)))) (fun _ i => 11 - (intOf i).toNat)
                  case atStart => exact ⟨0, by omega, rfl, rfl⟩
                  case round =>
                    obtain ⟨k, hk, rfl, rfl⟩ := hrel
                    have hb5 := sum_max_bd (k := k) (h := fun v => giveN n T C (frL l) (toL l) lo v) (B := 10000) (by omega) (fun i hi => (HNB.out i (by omega)).2)
                    by_cases hlt : k < 11
                    · have hlt' : decide ((k : Int) < 11) = true := by simp; omega
                      have ck := hx.out.give.cell (i := k) (by omega)
                      rw [gv4_all] at ck
                      have hb6 := HNB.out k hlt
                      have hsn : sumR (k + 1) (fun v => max 0 (giveN n T C (frL l) (toL l) lo v)) = sumR k (fun v => max 0 (giveN n T C (frL l) (toL l) lo v)) + max 0 (giveN n T C (frL l) (toL l) lo k) := rfl
                      have HSN := Lib.hid hsn
                      clear hsn
                      obtain ⟨D, hD⟩ : ∃ D, sumR k (fun v => max 0 (giveN n T C (frL l) (toL l) lo v)) = D := ⟨_, rfl⟩
                      obtain ⟨G, hG⟩ : ∃ G, giveN n T C (frL l) (toL l) lo k = G := ⟨_, rfl⟩
                      rw [hD] at hb5
                      rw [hG] at hb6 ck
                      rw [hD, hG] at HSN
                      rw [hD]
                      clear hD hG
                      have hi0 : (0 : Int) ≤ (k : Int) := by omega
                      have hb7 : 0 ≤ D ∧ D ≤ 1000000 := by omega
                      clear hb5
                      go_wp2_with fail
                      refine ⟨⟨k + 1, by omega, by go_num, ?_⟩, by simp [intOf]; omega⟩
                      rw [HSN.out]
                      congr 1
                      split <;> omega
                    · have hlt' : decide ((k : Int) < 11) = false := by simp; omega
                      obtain rfl : k = 11 := by omega
                      have hE := hx.out
                      have c1 : w'.cell? ⟨B3, 0, none⟩ = some (.slice (some ⟨b, o, none⟩) n cap) := by simp [World.cell?, hE.work]
                      have hfin := Lib.hid (⟨B3, B2, _, rfl, hE.below, by omega, by omega, c1, hE.cells.2.2.2, hE.map, rfl⟩ : BegPost (some ⟨b, o, none⟩) n cap T C l lo hi w (.returned (.tuple #[.pointer (some ⟨B3, 0, none⟩), .int .i64 (sumR 11 (fun v => max 0 (giveN n T C (frL l) (toL l) lo v)))])) w')
                      clear hE c1 hb5
                      go_wp2_with fail
                      go_ret2
                      exact hfin.out
end
end Go.Proofs.Ytkloaeaepjoijaa
namespace Go.Proofs.Ytkloaeaepjoijaa
section
/-- A truth of a net in rooms: no node gives anything. -/
def TruthN (len : Nat) (T C : Int) (fr to lo hi x : Int → Int) : Prop :=
  (∀ i : Nat, i < len → lo i ≤ x i ∧ x i ≤ hi i) ∧ ∀ v : Nat, v < 10 → give9 len T C fr to x v = 0
section
variable {len : Nat} {T C : Int} {fr to lo hi x : Int → Int}
theorem truth_not_denied (hfr : ∀ i, 0 ≤ i → i < (len : Int) → 0 ≤ fr i ∧ fr i ≤ 10) (hto : ∀ i, 0 ≤ i → i < (len : Int) → 0 ≤ to i ∧ to i ≤ 10) (h : TruthN len T C fr to lo hi x) {m : Int → Bool} (hm : m 10 = false) :
    lowM len fr to lo hi m ≤ diffM T C m ∧ diffM T C m ≤ highM len fr to lo hi m := by
  have hs := sum_give9 (T := T) (C := C) (lo := x) hfr hto m hm
  have h0 : sumR 10 (fun v => chi (m v) * give9 len T C fr to x v) = 0 := by
    rw [sumR_congr (k := fun _ => 0)]
    · exact sumR_zero _
    · intro v hv; rw [h.2 v hv, Int.mul_zero]
  have e : diffM T C m = sumR len (fun i => (chi (m (fr i)) - chi (m (to i))) * x i) := by
    have : sumR len (fun i => (chi (m (fr i)) - chi (m (to i))) * x i) = - sumR len (fun i => (chi (m (to i)) - chi (m (fr i))) * x i) := by
      rw [← sumR_neg]
      exact sumR_congr fun i _ => by rw [← Int.neg_mul]; congr 1; omega
    omega
  rw [e]
  constructor
  · refine sumR_le fun i hi' => ?_
    have := h.1 i hi'
    cases m (fr i) <;> cases m (to i) <;> simp [chi] <;> omega
  · refine sumR_le fun i hi' => ?_
    have := h.1 i hi'
    cases m (fr i) <;> cases m (to i) <;> simp [chi] <;> omega
theorem out_zero {f : Int → Int → Int → Int} (nn : ∀ x y z, 0 ≤ f x y z) {u : Int} (h : outR len f u ≤ 0) : ∀ v j : Nat, v < 13 → j < len + 1 → f u v ((j : Int) - 1) = 0 := by
  intro v j hv hj
  have h1 := sumR_eq_zero (n := 13) (h := fun v => sumR (len + 1) (fun j => f u v ((j : Int) - 1))) (fun v _ => sumR_nonneg fun j _ => nn _ _ _) h v hv
  exact sumR_eq_zero (n := len + 1) (h := fun j => f u v ((j : Int) - 1)) (fun j _ => nn _ _ _) (by rw [h1]; omega) j hj
/-- The sum over the angles alone, node by node. -/
theorem out_split (f : Int → Int → Int → Int) (v : Int) : outR len f v = sumR 13 (fun u => f v u (-1)) + sumR len (fun i => sumR 13 (fun u => f v u i)) := by
  unfold outR
  rw [sumR_comm len 13 (fun i u => f v u i), ← sumR_add]
  refine sumR_congr fun u _ => ?_
  rw [sumR_shift]
  congr 1
  refine sumR_congr fun i _ => ?_
  rw [show ((i + 1 : Nat) : Int) - 1 = i by omega]
theorem flow_truth {f : Int → Int → Int → Int} {sum : Int}
    (hfr : ∀ i, 0 ≤ i → i < (len : Int) → (0 ≤ fr i ∧ fr i ≤ 4) ∨ fr i = 10) (hto : ∀ i, 0 ≤ i → i < (len : Int) → (5 ≤ to i ∧ to i ≤ 9) ∨ to i = 10)
    (hcap : ∀ i : Nat, i < len → lo i ≤ hi i)
    (nn : ∀ x y z, 0 ≤ f x y z)
    (pair : ∀ x y z, f x y z + f y x z = initF len fr to (fun i => hi i - lo i) (giveN len T C fr to lo) x y z + initF len fr to (fun i => hi i - lo i) (giveN len T C fr to lo) y x z)
    (bal : ∀ v : Int, outR len (initF len fr to (fun i => hi i - lo i) (giveN len T C fr to lo)) v - outR len f v = (if v = 11 then sum else 0) - (if v = 12 then sum else 0))
    (hsum : sum = sumR 11 (fun v => max 0 (giveN len T C fr to lo v))) :
    TruthN len T C fr to lo hi (fun i => lo i + f (to i) (fr i) i) := by
  obtain ⟨g, hg⟩ : ∃ g, giveN len T C fr to lo = g := ⟨_, rfl⟩
  rw [hg] at pair bal hsum
  have i1 : ∀ u v : Int, initF len fr to (fun i => hi i - lo i) g u v (-1) = if u = 11 ∧ 0 ≤ v ∧ v ≤ 10 then max 0 (g v) else if v = 12 ∧ 0 ≤ u ∧ u ≤ 10 then max 0 (-g u) else 0 := fun u v => by unfold initF; rw [if_pos rfl]
  have i2 : ∀ (u v : Int) (i : Nat), i < len → initF len fr to (fun i => hi i - lo i) g u v i = if u = fr i ∧ v = to i ∧ fr i ≠ to i then hi i - lo i else 0 := fun u v i hi' => by
    unfold initF
    rw [if_neg (by omega)]
    by_cases e : u = fr i ∧ v = to i ∧ fr i ≠ to i
    · rw [if_pos ⟨by omega, by omega, e⟩, if_pos e]
    · rw [if_neg (fun h => e h.2.2), if_neg e]
  -- the free node balances
  have hz : sumR 11 (fun v => g v) = 0 := by
    have : ∀ h : Nat → Int, sumR 11 h = sumR 10 h + h 10 := fun _ => rfl
    rw [this]
    have e1 : sumR 10 (fun v => g v) = sumR 10 (fun v => give9 len T C fr to lo v) := sumR_congr fun v hv => by rw [← hg]; unfold giveN; rw [if_neg (by omega)]
    have e2 : g ((10 : Nat) : Int) = - sumR 10 (fun u => give9 len T C fr to lo u) := by rw [← hg]; unfold giveN; rw [if_pos (by omega)]
    rw [e1, e2]; omega
  have hpm : sumR 11 (fun v => max 0 (g v)) = sumR 11 (fun v => max 0 (-g v)) := by
    have : sumR 11 (fun v => max 0 (g v)) - sumR 11 (fun v => max 0 (-g v)) = sumR 11 (fun v => g v) := by
      rw [← sumR_sub]; exact sumR_congr fun v _ => by omega
    omega
  have s13 : ∀ h : Nat → Int, sumR 13 h = sumR 11 h + h 11 + h 12 := fun _ => rfl
  -- from first nothing more flows
  have o11 : outR len (initF len fr to (fun i => hi i - lo i) g) 11 = sumR 11 (fun v => max 0 (g v)) := by
    rw [out_split]
    have e1 : sumR 13 (fun u => initF len fr to (fun i => hi i - lo i) g 11 u (-1)) = sumR 11 (fun v => max 0 (g v)) := by
      rw [s13, i1, i1, if_neg (fun h => by omega), if_neg (fun h => by omega), if_neg (fun h => by omega), if_neg (fun h => by omega)]
      rw [sumR_congr (k := fun v => max 0 (g v)) (fun v hv => by rw [i1, if_pos ⟨rfl, by omega, by omega⟩])]
      omega
    have e2 : sumR len (fun i => sumR 13 (fun u => initF len fr to (fun i => hi i - lo i) g 11 u i)) = 0 := by
      rw [sumR_congr (k := fun _ => 0)]
      · exact sumR_zero _
      · intro i hi'
        rw [sumR_congr (k := fun _ => 0)]
        · exact sumR_zero _
        · intro u _
          have := hfr i (by omega) (by omega)
          rw [i2 _ _ i hi', if_neg (fun h => by omega)]
    rw [e1, e2]; omega
  have b11 := bal 11
  rw [if_pos rfl, if_neg (by omega), o11] at b11
  have z11 := out_zero (len := len) nn (u := 11) (by omega)
  have f11 : ∀ v : Nat, v < 13 → f 11 v (-1) = 0 := fun v hv => by have := z11 v 0 hv (by omega); simpa using this
  -- all that is due comes to last
  have o12 : outR len (initF len fr to (fun i => hi i - lo i) g) 12 = 0 := by
    rw [out_split]
    have e1 : sumR 13 (fun u => initF len fr to (fun i => hi i - lo i) g 12 u (-1)) = 0 := by
      rw [sumR_congr (k := fun _ => 0)]
      · exact sumR_zero _
      · intro u _; rw [i1, if_neg (fun h => by omega), if_neg (fun h => by omega)]
    have e2 : sumR len (fun i => sumR 13 (fun u => initF len fr to (fun i => hi i - lo i) g 12 u i)) = 0 := by
      rw [sumR_congr (k := fun _ => 0)]
      · exact sumR_zero _
      · intro i hi'
        rw [sumR_congr (k := fun _ => 0)]
        · exact sumR_zero _
        · intro u _
          have := hfr i (by omega) (by omega)
          rw [i2 _ _ i hi', if_neg (fun h => by omega)]
    rw [e1, e2]; omega
  have b12 := bal 12
  rw [if_neg (by omega), if_pos rfl, o12] at b12
  have p12 : ∀ v : Nat, v < 11 → f 12 v (-1) + f v 12 (-1) = max 0 (-g v) := fun v hv => by
    rw [pair, i1, i1, if_neg (fun h => by omega), if_neg (fun h => by omega), if_neg (fun h => by omega), if_pos ⟨rfl, by omega, by omega⟩]; omega
  have o12f : outR len f 12 = sumR 11 (fun v => f 12 v (-1)) := by
    rw [out_split]
    have e1 : sumR 13 (fun u => f 12 u (-1)) = sumR 11 (fun v => f 12 v (-1)) := by
      rw [s13]
      have q1 := pair 12 (11 : Nat) (-1)
      rw [i1, i1, if_neg (fun h => by omega), if_neg (fun h => by omega), if_neg (fun h => by omega), if_neg (fun h => by omega)] at q1
      have q2 := pair 12 (12 : Nat) (-1)
      rw [i1, i1, if_neg (fun h => by omega), if_neg (fun h => by omega), if_neg (fun h => by omega), if_neg (fun h => by omega)] at q2
      have n1 := nn 12 (11 : Nat) (-1)
      have n2 := nn (11 : Nat) 12 (-1)
      have n3 := nn 12 (12 : Nat) (-1)
      have n4 := nn (12 : Nat) 12 (-1)
      omega
    have e2 : sumR len (fun i => sumR 13 (fun u => f 12 u i)) = 0 := by
      rw [sumR_congr (k := fun _ => 0)]
      · exact sumR_zero _
      · intro i hi'
        rw [sumR_congr (k := fun _ => 0)]
        · exact sumR_zero _
        · intro u _
          have h1 := hfr i (by omega) (by omega)
          have h2 := hto i (by omega) (by omega)
          have q := pair 12 u i
          rw [i2 _ _ i hi', i2 _ _ i hi', if_neg (fun h => by omega), if_neg (fun h => by omega)] at q
          have n1 := nn 12 u i
          have n2 := nn u 12 i
          omega
    rw [e1, e2]; omega
  have z12 : ∀ v : Nat, v < 11 → f v 12 (-1) = 0 := by
    have hle : sumR 11 (fun v => f v 12 (-1)) ≤ 0 := by
      have : sumR 11 (fun v => f 12 v (-1)) + sumR 11 (fun v => f v 12 (-1)) = sumR 11 (fun v => max 0 (-g v)) := by
        rw [← sumR_add]; exact sumR_congr fun v hv => p12 v hv
      omega
    exact sumR_eq_zero (h := fun v => f v 12 (-1)) (fun v _ => nn _ _ _) hle
  refine ⟨fun i hi' => ?_, fun v hv => ?_⟩
  · have q := pair (fr i) (to i) i
    rw [i2 _ _ i hi', i2 _ _ i hi'] at q
    have n1 := nn (fr i) (to i) i
    have n2 := nn (to i) (fr i) i
    have h1 := hcap i hi'
    by_cases e : fr i = to i
    · rw [if_neg (fun h => h.2.2 e), if_neg (fun h => h.2.2 e)] at q
      dsimp only; omega
    · rw [if_pos ⟨rfl, rfl, e⟩, if_neg (fun h => e h.1.symm)] at q
      dsimp only; omega
  · have bv := bal v
    rw [if_neg (by omega), if_neg (by omega)] at bv
    have ov : outR len (initF len fr to (fun i => hi i - lo i) g) v = max 0 (-g v) + sumR len (fun i => if fr i = v then hi i - lo i else 0) := by
      rw [out_split]
      congr 1
      · rw [s13, i1, i1, if_neg (fun h => by omega), if_neg (fun h => by omega), if_neg (fun h => by omega), if_pos ⟨rfl, by omega, by omega⟩]
        rw [sumR_congr (k := fun _ => 0) (fun u hu => by rw [i1, if_neg (fun h => by omega), if_neg (fun h => by omega)]), sumR_zero]
        omega
      · refine sumR_congr fun i hi' => ?_
        have h2 := hto i (by omega) (by omega)
        by_cases e : fr i = v
        · rw [if_pos e]
          have := sumR_map_only (n := 13) (k := to i) (by omega) (by omega) (fun _ => hi i - lo i)
          rw [← this]
          refine sumR_congr fun u _ => ?_
          rw [i2 _ _ i hi']
          by_cases eu : (u : Int) = to i
          · rw [if_pos eu, if_pos ⟨e.symm, eu, by have := hfr i (by omega) (by omega); omega⟩]
          · rw [if_neg eu, if_neg (fun h => eu h.2.1)]
        · rw [if_neg e, sumR_congr (k := fun _ => 0)]
          · exact sumR_zero _
          · intro u _; rw [i2 _ _ i hi', if_neg (fun h => e h.1.symm)]
    have fv : outR len f v = max 0 (g v) + sumR len (fun i => (if fr i = v then hi i - lo i - f (to i) (fr i) i else 0) + (if to i = v then f (to i) (fr i) i else 0)) := by
      rw [out_split]
      congr 1
      · have q11 := pair v 11 (-1)
        rw [i1, i1, if_neg (fun h => by omega), if_neg (fun h => by omega), if_pos ⟨rfl, by omega, by omega⟩] at q11
        have q11' := f11 v (by omega)
        have q12 := z12 v (by omega)
        rw [s13]
        have e0 : sumR 11 (fun u => f v u (-1)) = 0 := by
          rw [sumR_congr (k := fun _ => 0)]
          · exact sumR_zero _
          · intro u hu
            have q := pair v u (-1)
            rw [i1, i1, if_neg (fun h => by omega), if_neg (fun h => by omega), if_neg (fun h => by omega), if_neg (fun h => by omega)] at q
            have n1 := nn v u (-1)
            have n2 := nn u v (-1)
            omega
        rw [e0]
        rw [show (((11 : Nat) : Int)) = 11 from rfl, show (((12 : Nat) : Int)) = 12 from rfl]
        omega
      · refine sumR_congr fun i hi' => ?_
        have h1 := hfr i (by omega) (by omega)
        have h2 := hto i (by omega) (by omega)
        by_cases e : fr i = v
        · have et : ¬ to i = v := by omega
          rw [if_pos e, if_neg et]
          have := sumR_map_only (n := 13) (k := to i) (by omega) (by omega) (fun _ => hi i - lo i - f (to i) (fr i) i)
          rw [Int.add_zero, ← this]
          refine sumR_congr fun u _ => ?_
          have q := pair v u i
          rw [i2 _ _ i hi', i2 _ _ i hi'] at q
          by_cases eu : (u : Int) = to i
          · rw [if_pos eu]
            rw [if_pos ⟨e.symm, eu, by omega⟩, if_neg (fun h => by omega)] at q
            rw [eu, ← e] at q
            rw [eu, ← e]
            omega
          · rw [if_neg eu]
            rw [if_neg (fun h => eu h.2.1), if_neg (fun h => et h.2.1.symm)] at q
            have n1 := nn v u i
            have n2 := nn u v i
            omega
        · rw [if_neg e]
          by_cases et : to i = v
          · rw [if_pos et]
            have := sumR_map_only (n := 13) (k := fr i) (by omega) (by omega) (fun _ => f (to i) (fr i) i)
            rw [Int.zero_add, ← this]
            refine sumR_congr fun u _ => ?_
            by_cases eu : (u : Int) = fr i
            · rw [if_pos eu, eu, et]
            · rw [if_neg eu]
              have q := pair v u i
              rw [i2 _ _ i hi', i2 _ _ i hi', if_neg (fun h => e h.1.symm), if_neg (fun h => eu h.1)] at q
              have n1 := nn v u i
              have n2 := nn u v i
              omega
          · rw [if_neg et, sumR_congr (k := fun _ => 0)]
            · rw [sumR_zero]; rfl
            · intro u _
              have q := pair v u i
              rw [i2 _ _ i hi', i2 _ _ i hi', if_neg (fun h => e h.1.symm), if_neg (fun h => et h.2.1.symm)] at q
              have n1 := nn v u i
              have n2 := nn u v i
              omega
    have gv : g v = give9 len T C fr to lo v := by rw [← hg]; unfold giveN; rw [if_neg (by omega)]
    have hsplit : give9 len T C fr to (fun i => lo i + f (to i) (fr i) i) v = give9 len T C fr to lo v +
        (sumR len (fun i => (if fr i = v then hi i - lo i - f (to i) (fr i) i else 0) + (if to i = v then f (to i) (fr i) i else 0)) - sumR len (fun i => if fr i = v then hi i - lo i else 0)) := by
      unfold give9
      rw [← sumR_sub, Int.add_assoc, ← sumR_add]
      congr 1
      refine sumR_congr fun i _ => ?_
      by_cases e : fr i = v <;> by_cases et : to i = v <;> simp only [e, et, if_true, if_false] <;> omega
    rw [hsplit, ← gv]
    omega
end
end
end Go.Proofs.Ytkloaeaepjoijaa
namespace Go.Proofs.Ytkloaeaepjoijaa
section
open Go.RowKit Go.WalkArith
theorem out11_init (len : Nat) (fr to cap g : Int → Int) (hfr : ∀ i : Nat, i < len → 0 ≤ fr i ∧ fr i ≤ 10) : outR len (initF len fr to cap g) 11 = sumR 11 (fun v => max 0 (g v)) := by
  have s13 : ∀ h : Nat → Int, sumR 13 h = sumR 11 h + h 11 + h 12 := fun _ => rfl
  have i1 : ∀ u v : Int, initF len fr to cap g u v (-1) = if u = 11 ∧ 0 ≤ v ∧ v ≤ 10 then max 0 (g v) else if v = 12 ∧ 0 ≤ u ∧ u ≤ 10 then max 0 (-g u) else 0 := fun u v => by unfold initF; rw [if_pos rfl]
  rw [out_split]
  have e1 : sumR 13 (fun u => initF len fr to cap g 11 u (-1)) = sumR 11 (fun v => max 0 (g v)) := by
    rw [s13, i1, i1, if_neg (fun h => by omega), if_neg (fun h => by omega), if_neg (fun h => by omega), if_neg (fun h => by omega)]
    rw [sumR_congr (k := fun v => max 0 (g v)) (fun v hv => by rw [i1, if_pos ⟨rfl, by omega, by omega⟩])]
    omega
  have e2 : sumR len (fun i => sumR 13 (fun u => initF len fr to cap g 11 u i)) = 0 := by
    rw [sumR_congr (k := fun _ => 0)]
    · exact sumR_zero _
    · intro i hi'
      rw [sumR_congr (k := fun _ => 0)]
      · exact sumR_zero _
      · intro u _
        have := hfr i hi'
        unfold initF
        rw [if_neg (by omega), if_neg (fun h => by omega)]
  rw [e1, e2]; omega
theorem initF_cap {len : Nat} {fr to cap g : Int → Int} (hcap : ∀ i : Nat, i < len → 0 ≤ cap i ∧ cap i ≤ 1000) (hg : ∀ v : Nat, v < 11 → -10000 ≤ g v ∧ g v ≤ 10000) : capOk (initF len fr to cap g) := by
  have hb : ∀ x y z, 0 ≤ initF len fr to cap g x y z ∧ initF len fr to cap g x y z ≤ 10000 := by
    intro x y z
    unfold initF
    split
    · split
      · rename_i h
        have := hg y.toNat (by omega)
        rw [show ((y.toNat : Nat) : Int) = y by omega] at this
        omega
      · split
        · rename_i h
          have := hg x.toNat (by omega)
          rw [show ((x.toNat : Nat) : Int) = x by omega] at this
          omega
        · omega
    · split
      · rename_i h
        have := hcap z.toNat (by omega)
        rw [show ((z.toNat : Nat) : Int) = z by omega] at this
        omega
      · omega
  intro x y z
  have h1 := hb x y z
  have h2 := hb y x z
  omega
/-- What truth hands back. -/
def TruthPost (n : Nat) (T C : Int) (l : List Ang) (lo hi : Int → Int) (w : World) (e : Ending) (w' : World) : Prop :=
  Below w.heap.size w w' ∧
  ((e = .returned (.tuple #[.slice none 0 0, .bool false]) ∧ ∃ m : Int → Bool, m 10 = false ∧ (diffM T C m < lowM n (frL l) (toL l) lo hi m ∨ highM n (frL l) (toL l) lo hi m < diffM T C m)) ∨
   (∃ (v : Value) (x : Int → Int), e = .returned (.tuple #[v, .bool true]) ∧ w'.ownsRow w.heap.size 3 1 v n ((List.range n).map fun i : Nat => .int .i64 (x i)) ∧ TruthN n T C (frL l) (toL l) lo hi x))
theorem _root_.Go.World.ownsRow.lower {w : World} {base base' : Nat} {e : TypeId} {size : Nat} {v : Value} {n : Nat} {xs : List Value} (h : w.ownsRow base e size v n xs) (hb : base' ≤ base) : w.ownsRow base' e size v n xs := by
  obtain ⟨h1, h2 | ⟨g, cap, cur, h3, h4, h5⟩⟩ := h
  · exact ⟨h1, .inl h2⟩
  · exact ⟨h1, .inr ⟨g, cap, cur, h3, Nat.le_trans hb h4, h5⟩⟩
def TRel (n : Nat) (w2 : World) (x : Int → Int) (v i : Value) (wr : World) : Prop :=
  ∃ k : Nat, k ≤ n ∧ i = .int .i64 k ∧ wr.ownsRow w2.heap.size 3 1 v k ((List.range k).map fun i : Nat => .int .i64 (x i)) ∧ Below w2.heap.size w2 wr
theorem Try.info3 : (Try.prog.info? 3).map (fun i => (i.zero, i.size, i.bytes)) = some (some (.int .i64 0), 1, 8) := by kernel_rfl
theorem heap_alloc2 (w : World) (o1 o2 : Obj) : ((w.alloc o1).alloc o2).heap[w.heap.size + 1]? = some o2 := by
  have := Go.heap_alloc_new (w.alloc o1) o2
  simpa using this
set_option maxRecDepth 100000 in
set_option maxHeartbeats 4000000 in
theorem truth_any (b o n cap : Nat) (T C : Int) (l : List Ang) (rs : Array Value) (lo hi : Int → Int) (w : World) (hl : l.length = n) (hok : NetOk l T C) (hA : AngsAt w (some ⟨b, o, none⟩) l) (hrs : RoomsV rs lo hi) (hro : RoomsOk n lo hi) :
    Calls Try.prog 80 #[.agg #[.slice (some ⟨b, o, none⟩) n cap, .int .i64 T, .int .i64 C], .agg rs] w (TruthPost n T C l lo hi w) := by
  have HR := Lib.hid hrs
  have HO := Lib.hid hok
  have HL := Lib.hid hl
  have HRO := Lib.hid hro
  have HA := Lib.hid hA
  have hpos : 0 < l.length := hok.pos
  obtain ⟨b', o', hAe, hAs⟩ := hA.resolve_left (fun h => by rw [h] at hpos; simp at hpos)
  obtain ⟨rfl, rfl⟩ : b = b' ∧ o = o' := by simpa using hAe
  have hbl := World.block_lt_of_cell? w _ (hAs 0 hpos).1
  clear hrs hok hl hro hA hAs hAe
  have hAX : ∀ X, Below w.heap.size w X → AngsAt X (some ⟨b, o, none⟩) l := fun X hX => by
    obtain ⟨b', o', hAe, hAs⟩ := HA.out.resolve_left (fun h => by rw [h] at hpos; simp at hpos)
    obtain ⟨rfl, rfl⟩ : b = b' ∧ o = o' := by simpa using hAe
    refine .inr ⟨b, o, rfl, fun i hi' => ?_⟩
    have hc := fun i => hX.cell (p := ⟨b, i, none⟩) hbl
    have hak := hAs i hi'
    exact ⟨(hc _).trans hak.1, (hc _).trans hak.2.1, (hc _).trans hak.2.2.1, (hc _).trans hak.2.2.2⟩
  have HAX := Lib.hid hAX
  clear hAX
  go_enter Try.func80, Try.ntmps80
  go_wp2_with (refine wpList_load_row rfl 109 _ rfl _ rfl 109 rs _ _ (heap_alloc2 _ _ _) Try.underlying109 rfl HR.out.size ?_)
  have hB0 : Below w.heap.size w ((w.alloc (.cells #[.slice (some ⟨b, o, none⟩) n cap, .int .i64 T, .int .i64 C] 33)).alloc (.cells rs 109)) := ((Below.refl _ _).alloc (Nat.le_refl _) _).alloc (by simp) _
  have q0 : ((w.alloc (.cells #[.slice (some ⟨b, o, none⟩) n cap, .int .i64 T, .int .i64 C] 33)).alloc (.cells rs 109)).heap[w.heap.size]? = some (.cells #[.slice (some ⟨b, o, none⟩) n cap, .int .i64 T, .int .i64 C] 33 (0, 0)) := (Below.heap_alloc _ _ _ (by simp)).trans (heap_new_at _ _ _ rfl)
  have q1 := heap_alloc2 w (.cells #[.slice (some ⟨b, o, none⟩) n cap, .int .i64 T, .int .i64 C] 33) (.cells rs 109)
  have hsz0 : ((w.alloc (.cells #[.slice (some ⟨b, o, none⟩) n cap, .int .i64 T, .int .i64 C] 33)).alloc (.cells rs 109)).heap.size = w.heap.size + 2 := by simp
  generalize (w.alloc (.cells #[.slice (some ⟨b, o, none⟩) n cap, .int .i64 T, .int .i64 C] 33)).alloc (.cells rs 109) = W0 at hB0 q0 q1 hsz0 ⊢
  refine (begin_any b o n cap T C l rs lo hi W0 HL.out HO.out (HAX.out W0 hB0) HR.out HRO.out).mono ?_
  rintro e w1 ⟨g, mb, due, rfl, hb1, hmb, hgb, hsl, hmp, hmap, hdue⟩
  have hn12 : n ≤ 12 := by rw [← HL.out]; exact HO.out.len
  have hfr10 : ∀ i : Nat, i < n → 0 ≤ frL l i ∧ frL l i ≤ 10 := fun i hi' => by
    have := HO.out.fr (i := i) (by rw [HL.out]; exact hi')
    have := HO.out.t1
    omega
  have hgb9 : ∀ v : Nat, -1000 ≤ give9 n T C (frL l) (toL l) lo v ∧ give9 n T C (frL l) (toL l) lo v ≤ 1000 := fun v => by
    have := give9_bd T C (frL l) (toL l) lo n v hn12 (fun i hi' => ⟨HRO.out.lo0 i (by omega), by have := HRO.out.le i (by omega); have := HRO.out.hi1 i (by omega); omega⟩)
    omega
  have hNb : ∀ v : Nat, v < 11 → -10000 ≤ giveN n T C (frL l) (toL l) lo v ∧ giveN n T C (frL l) (toL l) lo v ≤ 10000 := fun v hv => by
    have h1 := hgb9 v
    have hb2 := sumR_bd (k := 10) (h := fun u => give9 n T C (frL l) (toL l) lo u) (B := 1000) (fun i _ => hgb9 i)
    unfold giveN
    split <;> omega
  have hcapk : capOk (initF n (frL l) (toL l) (fun i => hi i - lo i) (giveN n T C (frL l) (toL l) lo)) :=
    initF_cap (fun i hi' => by have := HRO.out.lo0 i hi'; have := HRO.out.le i hi'; have := HRO.out.hi1 i hi'; omega) hNb
  have ho11 := out11_init n (frL l) (toL l) (fun i => hi i - lo i) (giveN n T C (frL l) (toL l) lo) hfr10
  have hdb := sum_max_bd (k := 11) (h := fun v => giveN n T C (frL l) (toL l) lo v) (B := 10000) (by omega) (fun i hi => (hNb i (by omega)).2)
  rw [← hdue] at ho11 hdb
  have hgm : g ≠ mb := by rintro rfl; have := cell_map_none hmap 3; rw [this] at hmp; cases hmp
  have hflow := Lib.hid (flow_any g mb n _ w1 (by omega) ⟨_, _, hsl⟩ hmp hmap hcapk (by rw [ho11]; omega))
  have HD := Lib.hid hdue
  have HO11 := Lib.hid ho11
  have HCK := Lib.hid hcapk
  clear hdue ho11 hcapk hNb hgb9 hmap hfr10
  go_wp2_with fail
  refine hflow.out.mono ?_
  clear hflow
  rintro e w2 ⟨sum, f, S, rfl, hs0, hm, hfl, hS1, hS2, hk, hcl⟩
  have hsl1 := hfl.le
  rw [HO11.out] at hsl1
  have HF := Lib.hid hfl
  have HCL := Lib.hid hcl
  have HM := Lib.hid hm
  have hB2 : Below w.heap.size w w2 := (hB0.trans (hb1.mono hB0.size)).trans ((hk.below (B := w.heap.size) (by omega) (by have := hb1.size; omega)))
  have hfr' : ∀ i : Int, 0 ≤ i → i < (n : Int) → (0 ≤ frL l i ∧ frL l i ≤ 4) ∨ frL l i = 10 := fun i h0 h1 => by
    obtain ⟨j, rfl⟩ := Int.eq_ofNat_of_zero_le h0
    have := HO.out.fr (i := j) (by rw [HL.out]; omega)
    have := HO.out.t1
    omega
  have hto' : ∀ i : Int, 0 ≤ i → i < (n : Int) → (5 ≤ toL l i ∧ toL l i ≤ 9) ∨ toL l i = 10 := fun i h0 h1 => by
    obtain ⟨j, rfl⟩ := Int.eq_ofNat_of_zero_le h0
    have := HO.out.to (i := j) (by rw [HL.out]; omega)
    have := HO.out.c1
    omega
  have HFR := Lib.hid hfr'
  have HTO := Lib.hid hto'
  clear hfl hcl hm hfr' hto'
  by_cases hsd : sum = due
  · subst hsd
    have hT := Lib.hid (flow_truth HFR.out HTO.out (fun i hi' => HRO.out.le i hi') HF.out.nn HF.out.pair HF.out.bal HD.out)
    have hbb : (sum != sum) = false := by simp
    have hs1 := hb1.size
    have hs2 := hk.size
    have n0 : w2.heap[w.heap.size]? = some (.cells #[.slice (some ⟨b, o, none⟩) n cap, .int .i64 T, .int .i64 C] 33 (0, 0)) := (hk.block _ (by omega) (by omega)).trans ((hb1.block _ (by omega)).trans q0)
    have n1 : w2.heap[w.heap.size + 1]? = some (.cells rs 109 (0, 0)) := (hk.block _ (by omega) (by omega)).trans ((hb1.block _ (by omega)).trans q1)
    have n2 : w2.cell? ⟨g, 3, none⟩ = some (.map (some mb)) := hk.cell hmp hgm
    have x0 : w2.cell? ⟨w.heap.size, 0, none⟩ = some (.slice (some ⟨b, o, none⟩) n cap) := by simp [World.cell?, n0]
    obtain ⟨i0, hi0, hz0, hz1, hz2⟩ := info_parts Try.info3
    obtain ⟨x, hx⟩ : ∃ x : Int → Int, (fun i => lo i + f (toL l i) (frL l i) i) = x := ⟨_, rfl⟩
    rw [hx] at hT
    have HX := Lib.hid hx
    clear hx q0 q1 hB0 hb1 hsl hmp
    go_wp2_with fail
    go_loopw [8, 24] (TRel n w2 x) (fun _ i _ => n - (intOf i).toNat)
    case atStart => exact ⟨0, by omega, rfl, World.ownsRow_nil _ _ _ _, Below.refl _ _⟩
    case round =>
      obtain ⟨k, hk', rfl, hown, hbel⟩ := hrel
      have hsz := hbel.size
      by_cases hlt : k < n
      · have hlt' : decide ((k : Int) < (n : Int)) = true := by simpa using hlt
        have m0 : wr.heap[w.heap.size]? = some (.cells #[.slice (some ⟨b, o, none⟩) n cap, .int .i64 T, .int .i64 C] 33 (0, 0)) := (hbel.block _ (by omega)).trans n0
        have y0 : wr.cell? ⟨w.heap.size, 0, none⟩ = some (.slice (some ⟨b, o, none⟩) n cap) := by simp [World.cell?, m0]
        have y1 : wr.cell? ⟨w.heap.size, 1, none⟩ = some (.int .i64 T) := by simp [World.cell?, m0]
        have y2 : wr.cell? ⟨w.heap.size, 2, none⟩ = some (.int .i64 C) := by simp [World.cell?, m0]
        have hlk : k < l.length := by rw [HL.out]; exact hlt
        have hAw := HAX.out wr (hB2.trans (hbel.mono (by omega)))
        obtain ⟨b', o', hAe, hAs⟩ := hAw.resolve_left (fun h => by rw [h] at hlk; simp at hlk)
        obtain ⟨rfl, rfl⟩ : b = b' ∧ o = o' := by simpa using hAe
        have hak := hAs k hlk
        have han := HO.out.ang l[k] (List.getElem_mem hlk)
        have ht1 := HO.out.t1
        have hc1 := HO.out.c1
        have harc := arc_any b o n cap T C k l[k] wr hlt (by omega) hak (by omega) (by omega) (by omega) (by omega)
        rw [← frL_at hlk, ← toL_at hlk] at harc
        obtain ⟨p, hp⟩ : ∃ p, frL l k = p := ⟨_, rfl⟩
        obtain ⟨q, hq⟩ : ∃ q, toL l k = q := ⟨_, rfl⟩
        have hfr := HFR.out k (by omega) (by omega)
        have hto := HTO.out k (by omega) (by omega)
        rw [hp] at harc hfr
        rw [hq] at harc hto
        have HARC := Lib.hid harc
        clear harc hak hAs hAe hAw han m0 ht1 hc1
        go_wp2_with (go_at_call 69; refine HARC.out.mono ?_; rintro e w3 ⟨rfl, hb3⟩)
        have hs3 := hb3.size
        have hg3 : wr.grownBy (w3.alloc (.cells #[.int .i64 p, .int .i64 q, .int .i64 k] 112)) none := by
          have hbb := hb3.trans (((Below.refl _ w3).alloc (Nat.le_refl _) (.cells #[.int .i64 p, .int .i64 q, .int .i64 k] 112)).mono hb3.size)
          exact ⟨hbb.os, hbb.tape, hbb.output, hbb.size, fun j hj _ => hbb.block j hj⟩
        have hown4 := hown.kept hg3 (by cases hv : u8.ownBlock with | none => exact .inl rfl | some j => exact .inr (by simp))
        have hbel4 : Below w2.heap.size w2 (w3.alloc (.cells #[.int .i64 p, .int .i64 q, .int .i64 k] 112)) := hbel.trans ⟨hg3.os, hg3.tape, hg3.output, hg3.size, fun j hj => hg3.block j (by omega) (by simp)⟩
        have hblk := Go.heap_alloc_new w3 (.cells #[.int .i64 p, .int .i64 q, .int .i64 k] 112)
        have hsz4 : w3.heap.size < (w3.alloc (.cells #[.int .i64 p, .int .i64 q, .int .i64 k] 112)).heap.size := by simp
        have hol := hown.lt
        generalize w3.alloc (.cells #[.int .i64 p, .int .i64 q, .int .i64 k] 112) = w4 at hown4 hbel4 hblk hsz4 ⊢
        obtain ⟨Ba, hBa⟩ : ∃ Ba, w3.heap.size = Ba := ⟨_, rfl⟩
        rw [hBa] at hblk hsz4 hs3 ⊢
        have a0 : w4.cell? ⟨Ba, 0, none⟩ = some (.int .i64 p) := by simp [World.cell?, hblk]
        have a1 : w4.cell? ⟨Ba, 1, none⟩ = some (.int .i64 q) := by simp [World.cell?, hblk]
        have hgl : g < w2.heap.size := World.block_lt_of_cell? w2 _ n2
        have r0 : w4.cell? ⟨w.heap.size + 1, k * 2, none⟩ = some (.int .i64 (lo k)) := by
          simp [World.cell?, (hbel4.block (w.heap.size + 1) (by omega)).trans n1, HR.out.lo k (by omega)]
        have r1 : w4.cell? ⟨g, 3, none⟩ = some (.map (some mb)) := (hbel4.cell (p := ⟨g, 3, none⟩) hgl).trans n2
        have hmbl := HM.out.lt
        have hm4 : ArcMap w4.drew mb f := HM.out.of_block (hbel4.block mb hmbl)
        have hkey : ∃ l, keyOf Try.prog 112 (arcV q p k) = some l := arc_key _ _ _ (wf_i64 ⟨by omega, by omega⟩) (wf_i64 ⟨by omega, by omega⟩) (wf_i64 ⟨by omega, by omega⟩)
        have hlkp := hm4.run_lookup hkey
        unfold arcV at hlkp
        have hfc : 0 ≤ f q p k ∧ f q p k + f p q k ≤ 1000000 := (HF.out.cap HCK.out) q p k
        have hfc2 : 0 ≤ f p q k ∧ f p q k + f q p k ≤ 1000000 := (HF.out.cap HCK.out) p q k
        have bl0 := HRO.out.lo0 k hlt
        have bl1 := HRO.out.le k hlt
        have bl2 := HRO.out.hi1 k hlt
        have hxk : x k = lo k + f q p k := by rw [← HX.out]; simp only []; rw [hp, hq]
        obtain ⟨L, hL⟩ : ∃ L, lo k = L := ⟨_, rfl⟩
        obtain ⟨F, hF⟩ : ∃ F, f q p k = F := ⟨_, rfl⟩
        rw [hL] at r0 bl0 bl1 hxk
        rw [hF] at hlkp hfc hxk
        have e1 : u8.ownBlock ≠ some Ba := fun e => by have := hol _ e; omega
        have e2 : u8.ownBlock ≠ some g := fun e => by have := hol _ e; omega
        have e3 : u8.ownBlock ≠ some (w.heap.size + 1) := fun e => by have := hol _ e; omega
        have wp1 : IntKind.i64.wrap (L + F) = L + F := IntWalk.i64_in _ (by omega)
        have i1 : (0 : Int) ≤ (k : Int) := by omega
        have i2 : (k : Int) < 12 := by omega
        have HXK := Lib.hid hxk
        have l1 : Ba < w4.heap.size := hsz4
        have l2 : g < w4.heap.size := World.block_lt_of_cell? w4 _ r1
        have l3 : w.heap.size + 1 < w4.heap.size := World.block_lt_of_cell? w4 _ r0
        have l4 : w2.heap.size ≤ w4.heap.size := hbel4.size
        clear hxk hL hF hkey hm4 hol hblk hBa hg3 hown hbel y0 y1 y2 hfc hfc2 hp hq
        go_region_held3 (fun X => X.cell? ⟨w.heap.size + 1, k * 2, none⟩ = some (.int .i64 L) ∧ X.cell? ⟨g, 3, none⟩ = some (.map (some mb)) ∧ X.cell? ⟨Ba, 0, none⟩ = some (.int .i64 p) ∧ X.cell? ⟨Ba, 1, none⟩ = some (.int .i64 q))
          (first
            | go_keep
            | (go_split_ands
               refine ⟨?_, ?_, ?_, ?_⟩
               · (rw [hgrow.cell_far _ (by simp; omega) (Ne.symm e3)]; assumption)
               · (rw [hgrow.cell_far _ (by simp; omega) (Ne.symm e2)]; assumption)
               · (rw [hgrow.cell_far _ (by simp; omega) (Ne.symm e1)]; assumption)
               · (rw [hgrow.cell_far _ (by simp; omega) (Ne.symm e1)]; assumption)))
          ((refine step_append_lies _ (by rfl) _ _ _ (by rfl) w2.heap.size 3 i0 _ 1 8 Try.underlying25 hi0 hz0 hz1 hz2 rfl (by omega) u8 k _ (by rfl) ((hown4.alloc _).drew)
              ⟨w4.heap.size, 0, none⟩ 1 1 [.int .i64 (L + F)] (by rfl) (by rfl) (World.news_of_block (cs := #[.int .i64 (L + F)]) (t := 3) (fr := (0, 0)) (heap_alloc_new w4 _)) (by simp [Value.oneCell'])
              (by omega) (by unfold maxLen; omega) (by omega) (by simp; omega) (w4.heap.size + 1) (by simp) ?_; intro gg cap' w5 hown5 hgrow hat hlt5))
        have hbel5 : Below w2.heap.size w2 w5 := by
          refine hbel4.trans ?_
          have hbx : Below w2.heap.size w4 (w4.alloc (.cells #[.int .i64 (L + F)] 3)).drew := (((Below.refl _ w4).alloc (Nat.le_refl _) _).mono l4).drew
          refine hbx.trans ⟨hgrow.os, hgrow.tape, hgrow.output, hgrow.size, fun j hj => hgrow.block j (by simp; omega) (fun e => ?_)⟩
          have := hown4.lt j e.symm
          omega
        have hown6 : w5.ownsRow w2.heap.size 3 1 (.slice (some ⟨gg, 0, none⟩) (k + 1) cap') (k + 1) ((List.range (k + 1)).map fun i : Nat => .int .i64 (x i)) := by
          rw [List.range_succ, List.map_append, List.map_singleton, HXK.out]
          exact hown5
        have HB5 := Lib.hid hbel5
        have HO6 := Lib.hid hown6
        clear hbel5 hown6 hown5 hgrow hat hown4 hbel4
        go_wp2_with fail
        go_roundw
        case rel => exact ⟨k + 1, by omega, by go_num, HO6.out, HB5.out⟩
        case measure => simp [intOf]; omega
      · have hlt' : decide ((k : Int) < (n : Int)) = false := by simpa using hlt
        obtain rfl : k = n := by omega
        have hfin : TruthPost k T C l lo hi w (.returned (.tuple #[u8, .bool true])) wr := ⟨hB2.trans (hbel.mono (by omega)), .inr ⟨u8, x, rfl, hown.lower (by omega), hT.out⟩⟩
        have HFIN := Lib.hid hfin
        clear hfin hown hbel
        go_wp2_with fail
        go_ret2
        exact HFIN.out
  · have hbb : (sum != due) = true := by simpa using hsd
    have hden := cut_denies (m := fun v => S v == !S 10) (fun i h0 h1 => by have := HFR.out i h0 h1; omega) (fun i h0 h1 => by have := HTO.out i h0 h1; omega) HF.out.pair HF.out.bal hS1 hS2 HCL.out (by rw [← HD.out]; omega) (fun _ => rfl)
    have hfin : TruthPost n T C l lo hi w (.returned (.tuple #[.slice none 0 0, .bool false])) w2 := ⟨hB2, .inl ⟨rfl, _, by cases S 10 <;> rfl, hden⟩⟩
    have HFIN := Lib.hid hfin
    clear hden hfin
    go_wp2_with fail
    go_ret2
    exact HFIN.out
end
end Go.Proofs.Ytkloaeaepjoijaa
namespace Go.Proofs.Ytkloaeaepjoijaa
section
/-- The nodes of a cut whose triangles and circles are told by bits. -/
def mOf (t c : Nat) (v : Int) : Bool := if 0 ≤ v ∧ v < 5 then t.testBit v.toNat else if 5 ≤ v ∧ v < 10 then c.testBit (v - 5).toNat else false
def denyB (n : Nat) (T C : Int) (fr to lo hi : Int → Int) (t c : Nat) : Bool :=
  decide (diffM T C (mOf t c) < lowM n fr to lo hi (mOf t c)) || decide (highM n fr to lo hi (mOf t c) < diffM T C (mOf t c))
/-- No cut denies. -/
def canB (l : List Ang) (T C : Int) (lo hi : Int → Int) : Bool :=
  (List.range (2 ^ T.toNat)).all fun t => (List.range (2 ^ C.toNat)).all fun c => !denyB l.length T C (frL l) (toL l) lo hi t c
theorem exists_bits (m : Nat → Bool) : ∀ k : Nat, ∃ t, t < 2 ^ k ∧ ∀ i, i < k → t.testBit i = m i := by
  intro k
  induction k with
  | zero => exact ⟨0, by simp, fun i hi => by omega⟩
  | succ k ih =>
    obtain ⟨t, ht, hb⟩ := ih
    cases hm : m k with
    | false =>
      refine ⟨t, by rw [Nat.pow_succ]; omega, fun i hi => ?_⟩
      by_cases e : i = k
      · subst e; rw [hm]; exact Nat.testBit_lt_two_pow ht
      · exact hb i (by omega)
    | true =>
      refine ⟨2 ^ k + t, by rw [Nat.pow_succ]; omega, fun i hi => ?_⟩
      by_cases e : i = k
      · subst e; rw [hm, Nat.testBit_two_pow_add_eq, Nat.testBit_lt_two_pow ht]; rfl
      · rw [Nat.testBit_two_pow_add_gt (by omega)]; exact hb i (by omega)
theorem mOf_10 (t c : Nat) : mOf t c 10 = false := by unfold mOf; rw [if_neg (by omega), if_neg (by omega)]
section
variable {l : List Ang} {T C : Int} {lo hi : Int → Int}
theorem diffM_congr {m m' : Int → Bool} (hT : T ≤ 5) (hC : C ≤ 5) (h1 : ∀ v : Int, 0 ≤ v → v < T → m v = m' v) (h2 : ∀ v : Int, 5 ≤ v → v < 5 + C → m v = m' v) : diffM T C m = diffM T C m' := by
  unfold diffM
  refine sumR_congr fun v _ => ?_
  unfold base
  by_cases a : 0 ≤ (v : Int) ∧ (v : Int) < T
  · rw [h1 v a.1 a.2]
  · rw [if_neg a]
    by_cases b : 5 ≤ (v : Int) ∧ (v : Int) < 5 + C
    · rw [h2 v b.1 b.2]
    · rw [if_neg b]; simp
theorem lowM_congr {n : Nat} {fr to : Int → Int} {m m' : Int → Bool} (h1 : ∀ i : Nat, i < n → m (fr i) = m' (fr i)) (h2 : ∀ i : Nat, i < n → m (to i) = m' (to i)) : lowM n fr to lo hi m = lowM n fr to lo hi m' := by
  unfold lowM
  exact sumR_congr fun i hi' => by rw [h1 i hi', h2 i hi']
theorem highM_congr {n : Nat} {fr to : Int → Int} {m m' : Int → Bool} (h1 : ∀ i : Nat, i < n → m (fr i) = m' (fr i)) (h2 : ∀ i : Nat, i < n → m (to i) = m' (to i)) : highM n fr to lo hi m = highM n fr to lo hi m' := by
  unfold highM
  exact sumR_congr fun i hi' => by rw [h1 i hi', h2 i hi']
/-- Every cut can be told by bits. -/
theorem cut_bits (hok : NetOk l T C) (m : Int → Bool) (hm : m 10 = false) : ∃ t c : Nat, t < 2 ^ T.toNat ∧ c < 2 ^ C.toNat ∧
    diffM T C m = diffM T C (mOf t c) ∧ lowM l.length (frL l) (toL l) lo hi m = lowM l.length (frL l) (toL l) lo hi (mOf t c) ∧ highM l.length (frL l) (toL l) lo hi m = highM l.length (frL l) (toL l) lo hi (mOf t c) := by
  obtain ⟨t, ht, hbt⟩ := exists_bits (fun i => m i) T.toNat
  obtain ⟨c, hc, hbc⟩ := exists_bits (fun i => m ((5 + i : Nat) : Int)) C.toNat
  have t0 := hok.t0
  have t1 := hok.t1
  have c0 := hok.c0
  have c1 := hok.c1
  have e1 : ∀ v : Int, 0 ≤ v → v < T → m v = mOf t c v := fun v h0 h1 => by
    unfold mOf; rw [if_pos ⟨h0, by omega⟩, hbt v.toNat (by omega)]
    rw [show ((v.toNat : Nat) : Int) = v by omega]
  have e2 : ∀ v : Int, 5 ≤ v → v < 5 + C → m v = mOf t c v := fun v h0 h1 => by
    unfold mOf; rw [if_neg (by omega), if_pos ⟨h0, by omega⟩, hbc (v - 5).toNat (by omega)]
    rw [show ((5 + (v - 5).toNat : Nat) : Int) = v by omega]
  have f1 : ∀ i : Nat, i < l.length → m (frL l i) = mOf t c (frL l i) := fun i hi' => by
    rcases hok.fr hi' with h | h
    · exact e1 _ h.1 h.2
    · rw [h, hm, mOf_10]
  have f2 : ∀ i : Nat, i < l.length → m (toL l i) = mOf t c (toL l i) := fun i hi' => by
    rcases hok.to hi' with h | h
    · exact e2 _ h.1 h.2
    · rw [h, hm, mOf_10]
  exact ⟨t, c, ht, hc, diffM_congr t1 c1 e1 e2, lowM_congr f1 f2, highM_congr f1 f2⟩
theorem canB_iff (hok : NetOk l T C) : canB l T C lo hi = true ↔ ∀ m : Int → Bool, m 10 = false →
    lowM l.length (frL l) (toL l) lo hi m ≤ diffM T C m ∧ diffM T C m ≤ highM l.length (frL l) (toL l) lo hi m := by
  unfold canB denyB
  simp only [List.all_eq_true, List.mem_range, Bool.not_eq_true', Bool.or_eq_false_iff, decide_eq_false_iff_not, Int.not_lt]
  constructor
  · intro h m hm
    obtain ⟨t, c, ht, hc, h1, h2, h3⟩ := cut_bits (lo := lo) (hi := hi) hok m hm
    rw [h1, h2, h3]
    exact h t ht c hc
  · intro h t _ c _
    exact h (mOf t c) (mOf_10 t c)
theorem canB_of_truth (hok : NetOk l T C) {x : Int → Int} (h : TruthN l.length T C (frL l) (toL l) lo hi x) : canB l T C lo hi = true :=
  (canB_iff hok).2 fun m hm => truth_not_denied
    (fun i h0 h1 => by obtain ⟨j, rfl⟩ := Int.eq_ofNat_of_zero_le h0; have := hok.fr (i := j) (by omega); have := hok.t1; omega)
    (fun i h0 h1 => by obtain ⟨j, rfl⟩ := Int.eq_ofNat_of_zero_le h0; have := hok.to (i := j) (by omega); have := hok.c1; omega) h hm
theorem canB_of_denied (hok : NetOk l T C) {m : Int → Bool} (hm : m 10 = false) (h : diffM T C m < lowM l.length (frL l) (toL l) lo hi m ∨ highM l.length (frL l) (toL l) lo hi m < diffM T C m) : canB l T C lo hi = false := by
  cases e : canB l T C lo hi with
  | false => rfl
  | true => have := (canB_iff hok).1 e m hm; omega
end
end
end Go.Proofs.Ytkloaeaepjoijaa

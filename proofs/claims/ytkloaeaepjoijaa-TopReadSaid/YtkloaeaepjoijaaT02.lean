/-
  TopRead, plainly: the row after a letter; texts one by one; the signs of a text; bounds.
  The iterator over the arcs from a node: its contract.
  A region that draws its order, in a round of a loop over an iterator, may be walked as anywhere.
  The recursive closure of flow: one walk through the residual net.
  flow: its contract: as much flows as can; what can still be reached is told.
-/
import Derived.Test.YtkloaeaepjoijaaT01
import Derived.Deep.RegionHeld3
import Derived.Laws.EntriesVeiled
import Derived.LoopIn
import Derived.LoopNIn
import Derived.OrdersIn
import Derived.Outline
import Derived.OwnWalkIn
import Derived.RangeFuncBound
import Derived.RangeFuncCalls
import Derived.RangeFuncLeaves
import Derived.RangeFuncNested
import Derived.RegionIn
import Derived.Shelf.Abstract
import Derived.Shelf.RegionOpen
import Derived.Sort.CutIn
import Derived.Sort.QuietIn
import Derived.TacticsInMore
import Derived.Test.YtkloaeaepjoijaaProg
set_option linter.all false
namespace Go.Proofs.Ytkloaeaepjoijaa
section
theorem begR_bd (rd : List Nat) : ∀ k, 0 ≤ begR rd k ∧ begR rd k ≤ far
  | 0 => by simp [begR, far]
  | k + 1 => by
    have ih := begR_bd rd k
    have hf : (0 : Int) ≤ far := by decide
    simp only [begR]
    split <;> omega
theorem sgnR_nn (rd : List Nat) {r b : Nat → Int} (hr : ∀ k, 0 ≤ r k) (hb : ∀ k, 0 ≤ b k) (last sign : Nat) : ∀ k, 0 ≤ sgnR rd r b last sign k
  | 0 => by
    have := hr 0
    have hf : (0 : Int) ≤ far := by decide
    simp only [sgnR]; split <;> omega
  | k + 1 => by
    have ih := sgnR_nn rd hr hb last sign k
    have h1 := hr (k + 1)
    have h2 := hr k
    have h3 := hr (k - 1)
    have h4 := hb k
    have hf : (0 : Int) ≤ far := by decide
    simp only [sgnR]
    repeat' split
    all_goals omega
theorem rowR_nn (rd : List Nat) : ∀ (a : List Nat) (k : Nat), 0 ≤ rowR rd a k := by
  have h : ∀ (n : Nat) (a : List Nat), a.length ≤ n → ∀ k, 0 ≤ rowR rd a k := by
    intro n
    induction n with
    | zero =>
      intro a ha k
      obtain rfl := List.length_eq_zero_iff.1 (Nat.le_zero.1 ha)
      exact (begR_bd rd k).1
    | succ n ih =>
      intro a ha k
      cases a with
      | nil => exact (begR_bd rd k).1
      | cons x a =>
        rw [rowR_cons]
        have ha' : a.length ≤ n := by simpa using ha
        refine sgnR_nn rd (ih a ha') (fun k => ?_) _ _ k
        cases a with
        | nil => exact Int.le_refl _
        | cons y b => exact ih b (by simp at ha'; omega) k
  exact fun a k => h a.length a (Nat.le_refl _) k
theorem rowR_far (rd : List Nat) (a : List Nat) (k : Nat) : rowR rd a k ≤ far := by
  cases a with
  | nil => exact (begR_bd rd k).2
  | cons x a => rw [rowR_cons]; exact sgnR_far _ _ _ _ _ _
theorem befR_nn (rd : List Nat) (a : List Nat) (k : Nat) : 0 ≤ befR rd a k := by
  cases a with
  | nil => exact Int.le_refl _
  | cons x a => exact rowR_nn rd a k
theorem befR_far (rd : List Nat) (a : List Nat) (k : Nat) : befR rd a k ≤ far := by
  cases a with
  | nil => show (0 : Int) ≤ far; decide
  | cons x a => exact rowR_far rd a k
/-- A blank needs neither the last sign nor the row before it. -/
theorem sgnR_blank (rd : List Nat) (r b b' : Nat → Int) (last last' : Nat) : ∀ k, sgnR rd r b last 32 k = sgnR rd r b' last' 32 k
  | 0 => rfl
  | k + 1 => by
    have ih := sgnR_blank rd r b b' last last' k
    have e1 : ¬ ((32 : Nat) = 46 ∧ last = 46 ∧ rdAt rd k = 45) := by omega
    have e2 : ¬ ((32 : Nat) = 46 ∧ last' = 46 ∧ rdAt rd k = 45) := by omega
    simp only [sgnR, ih, if_neg e1, if_neg e2]
/-- The signs so far, the last one first. -/
def soFar (a l : List Nat) (k : Nat) : List Nat := (l.take k).reverse ++ a
/-- The row before the last sign, and this sign, as a letter's signs are gone through. -/
def befK (rd a l : List Nat) (k : Nat) : Nat → Int := if k = 0 then fun _ => 0 else befR rd (soFar a l k)
def lastK (a l : List Nat) (k : Nat) : Nat := if k = 0 then 32 else (soFar a l k).headD 32
theorem soFar_succ {a l : List Nat} {k : Nat} (hk : k < l.length) : soFar a l (k + 1) = l[k] :: soFar a l k := by
  unfold soFar
  rw [List.take_succ_eq_append_getElem hk, List.reverse_append]; rfl
theorem befK_succ {rd a l : List Nat} {k : Nat} (hk : k < l.length) : befK rd a l (k + 1) = rowR rd (soFar a l k) := by
  unfold befK
  rw [if_neg (by omega), soFar_succ hk]; rfl
theorem lastK_succ {a l : List Nat} {k : Nat} (hk : k < l.length) : lastK a l (k + 1) = l[k] := by
  unfold lastK
  rw [if_neg (by omega), soFar_succ hk]; rfl
theorem row_next {rd a l : List Nat} {k : Nat} (hk : k < l.length) (ha : a = [] ∨ l.head? = some 32) (j : Nat) : sgnR rd (rowR rd (soFar a l k)) (befK rd a l k) (lastK a l k) l[k] j = rowR rd (soFar a l (k + 1)) j := by
  rw [soFar_succ hk, rowR_cons]
  unfold befK lastK
  by_cases e : k = 0
  · subst e
    rw [if_pos rfl, if_pos rfl]
    rcases ha with rfl | ha
    · simp [soFar, befR]
    · have : l[0] = 32 := by
        rw [List.head?_eq_getElem?, List.getElem?_eq_getElem hk] at ha
        simpa using ha
      rw [this]
      exact sgnR_blank _ _ _ _ _ _ _
  · rw [if_neg e, if_neg e]
theorem befK_nn (rd a l : List Nat) (k j : Nat) : 0 ≤ befK rd a l k j := by
  unfold befK; split
  · exact Int.le_refl _
  · exact befR_nn _ _ _
theorem befK_far (rd a l : List Nat) (k j : Nat) : befK rd a l k j ≤ far := by
  unfold befK; split
  · show (0 : Int) ≤ far; decide
  · exact befR_far _ _ _
/-- A row that is the first one is not hopeless. -/
theorem hop_beg {rd : List Nat} {e : Int} {f : Nat → Int} (he : 0 ≤ e) (hf : f 0 = begR rd 0) : hopB rd e f = false := by
  unfold hopB
  rw [Bool.not_eq_false', List.any_eq_true]
  exact ⟨0, List.mem_range.2 (by omega), by rw [hf]; simp only [begR]; exact decide_eq_true he⟩
/-- What the first letters add. -/
def txK (cs : List (List Nat)) (rd : List Nat) (e : Int) (m : Nat) (text a : List Nat) (k : Nat) : List (List Nat) :=
  (List.range k).flatMap fun n => txL cs rd e m (text ++ [n]) ((sg1 cs text n).reverse ++ a)
theorem txK_zero (cs : List (List Nat)) (rd : List Nat) (e : Int) (m : Nat) (text a : List Nat) : txK cs rd e m text a 0 = [] := rfl
theorem txK_succ (cs : List (List Nat)) (rd : List Nat) (e : Int) (m : Nat) (text a : List Nat) (k : Nat) : txK cs rd e m text a (k + 1) = txK cs rd e m text a k ++ txL cs rd e m (text ++ [k]) ((sg1 cs text k).reverse ++ a) := by
  unfold txK
  rw [List.range_succ, List.flatMap_append]
  simp
theorem txL_succ (cs : List (List Nat)) (rd : List Nat) (e : Int) (m : Nat) (text a : List Nat) (h : hopB rd e (rowR rd a) = false) : txL cs rd e (m + 1) text a = txK cs rd e m text a cs.length := by
  simp only [txL, h, Bool.false_eq_true, if_false]; rfl
theorem txL_hop (cs : List (List Nat)) (rd : List Nat) (e : Int) (m : Nat) (text a : List Nat) (h : hopB rd e (rowR rd a) = true) : txL cs rd e m text a = [] := by
  cases m <;> simp only [txL, h, if_true]
theorem txL_zero (cs : List (List Nat)) (rd : List Nat) (e : Int) (text a : List Nat) (h : hopB rd e (rowR rd a) = false) : txL cs rd e 0 text a = if rowR rd a rd.length ≤ e then [text] else [] := by
  simp only [txL, h, Bool.false_eq_true, if_false]
theorem flat_le {f : Nat → List (List Nat)} {q : Nat} : ∀ k, (∀ n, n < k → (f n).length ≤ q) → ((List.range k).flatMap f).length ≤ k * q := by
  intro k
  induction k with
  | zero => intro _; simp
  | succ k ih =>
    intro h
    rw [List.range_succ, List.flatMap_append, List.length_append]
    have h1 := ih fun n hn => h n (by omega)
    have h2 := h k (by omega)
    rw [Nat.succ_mul]
    have h3 : (List.flatMap f [k]).length = (f k).length := by simp
    omega
theorem txL_len {cs : List (List Nat)} {rd : List Nat} {e : Int} (hc : cs.length ≤ 6) : ∀ (m : Nat) (text a : List Nat), (txL cs rd e m text a).length ≤ 6 ^ m := by
  intro m
  induction m with
  | zero => intro text a; simp only [txL]; repeat' split
            all_goals simp
  | succ m ih =>
    intro text a
    simp only [txL]
    split
    · simp
    · have := flat_le (f := fun n => txL cs rd e m (text ++ [n]) ((sg1 cs text n).reverse ++ a)) (q := 6 ^ m) cs.length (fun n _ => ih _ _)
      have h2 : cs.length * 6 ^ m ≤ 6 * 6 ^ m := Nat.mul_le_mul_right _ hc
      rw [Nat.pow_succ, Nat.mul_comm (6 ^ m) 6]
      omega
theorem txK_len {cs : List (List Nat)} {rd : List Nat} {e : Int} (hc : cs.length ≤ 6) (m : Nat) (text a : List Nat) (k : Nat) : (txK cs rd e m text a k).length ≤ k * 6 ^ m := flat_le k fun n _ => txL_len hc _ _ _
/-- All texts of fewer than so many letters. -/
def txN (cs : List (List Nat)) (rd : List Nat) (e : Int) (k : Nat) : List (List Nat) := (List.range k).flatMap fun n => txL cs rd e n [] []
theorem txN_succ (cs : List (List Nat)) (rd : List Nat) (e : Int) (k : Nat) : txN cs rd e (k + 1) = txN cs rd e k ++ txL cs rd e k [] [] := by
  unfold txN
  rw [List.range_succ, List.flatMap_append]
  simp
theorem txN_len {cs : List (List Nat)} {rd : List Nat} {e : Int} (hc : cs.length ≤ 6) {k : Nat} (hk : k ≤ 6) : (txN cs rd e k).length ≤ 60000 := by
  have : (txN cs rd e k).length ≤ k * 6 ^ 5 := flat_le k fun n hn => Nat.le_trans (txL_len hc _ _ _) (Nat.pow_le_pow_right (by omega) (by omega))
  have h2 : k * 6 ^ 5 ≤ 6 * 6 ^ 5 := Nat.mul_le_mul_right _ hk
  omega
theorem txL_mem {cs : List (List Nat)} {rd : List Nat} {e : Int} {m : Nat} {t : List Nat} (h : t ∈ txL cs rd e m [] []) : t.length = m ∧ ∀ n ∈ t, n < cs.length := by
  have := txL_ok m [] [] (by simp) t h
  simpa using this
theorem textsL_mem {cs : List (List Nat)} {rd : List Nat} {e : Int} {m : Nat} {t : List Nat} (h : t ∈ textsL cs rd e m) : t.length ≤ m ∧ ∀ n ∈ t, n < cs.length := by
  unfold textsL at h
  rw [List.mem_flatMap] at h
  obtain ⟨n, h1, h2⟩ := h
  have := List.mem_range.1 h1
  obtain ⟨h3, h4⟩ := txL_mem h2
  exact ⟨by omega, h4⟩
theorem sgT_snoc (cs : List (List Nat)) (x : Nat) : ∀ (t pre : List Nat), sgT cs pre (t ++ [x]) = sgT cs pre t ++ sg1 cs (pre ++ t) x := by
  intro t
  induction t with
  | nil => intro pre; simp [sgT]
  | cons n t ih =>
    intro pre
    rw [List.cons_append]
    simp only [sgT]
    rw [ih (pre ++ [n]), List.append_assoc, List.append_assoc, List.singleton_append]
theorem sg1_len {cs : List (List Nat)} (h : ∀ c ∈ cs, c.length ≤ 4) (pre : List Nat) (n : Nat) : (sg1 cs pre n).length ≤ 5 := by
  have h1 : (cs.getD n []).length ≤ 4 := by
    rw [List.getD_eq_getElem?_getD]
    cases e : cs[n]? with
    | none => simp
    | some c => exact h c (List.mem_of_getElem? e)
  unfold sg1
  split
  · omega
  · rw [List.length_cons]; omega
theorem sgT_len {cs : List (List Nat)} (h : ∀ c ∈ cs, c.length ≤ 4) : ∀ (t pre : List Nat), (sgT cs pre t).length ≤ 5 * t.length := by
  intro t
  induction t with
  | nil => intro pre; simp [sgT]
  | cons n t ih =>
    intro pre
    have h1 := sg1_len h pre n
    have h2 := ih (pre ++ [n])
    simp only [sgT, List.length_append, List.length_cons]
    omega
theorem sg1_signs {cs : List (List Nat)} (h : ∀ c ∈ cs, ∀ x ∈ c, x = 46 ∨ x = 45) (pre : List Nat) (n : Nat) : ∀ x ∈ sg1 cs pre n, x = 46 ∨ x = 45 ∨ x = 32 := by
  have h1 : ∀ x ∈ cs.getD n [], x = 46 ∨ x = 45 := by
    intro x hx
    rw [List.getD_eq_getElem?_getD] at hx
    cases e : cs[n]? with
    | none => rw [e] at hx; simp at hx
    | some c => rw [e] at hx; exact h c (List.mem_of_getElem? e) x hx
  intro x hx
  unfold sg1 at hx
  split at hx
  · have := h1 x hx; omega
  · rcases List.mem_cons.1 hx with rfl | hx
    · omega
    · have := h1 x hx; omega
theorem sgT_signs {cs : List (List Nat)} (h : ∀ c ∈ cs, ∀ x ∈ c, x = 46 ∨ x = 45) : ∀ (t pre : List Nat), ∀ x ∈ sgT cs pre t, x = 46 ∨ x = 45 ∨ x = 32 := by
  intro t
  induction t with
  | nil => intro pre x hx; simp [sgT] at hx
  | cons n t ih =>
    intro pre x hx
    simp only [sgT] at hx
    rcases List.mem_append.1 hx with hx | hx
    · exact sg1_signs h pre n x hx
    · exact ih _ x hx
theorem ex_len {a b : List Nat} {c : Nat} (h : Ex a b c) : b.length ≤ a.length + c := by
  induction h with
  | nil => simp
  | copy x _ ih => simp; omega
  | miss x _ ih => simp; omega
  | split _ ih => simp; omega
  | join _ ih => simp; omega
  | gap _ ih => simp; omega
end
end Go.Proofs.Ytkloaeaepjoijaa
namespace Go.Proofs.Ytkloaeaepjoijaa
section
open Go.RowKit Go.WalkArith Go.Shelf
attribute [local go_sem] Oper.semAt_some
theorem grown_alloc_drewN (w : World) (o : Obj) (n : Nat) : w.grownBy ((w.alloc o).drewN n) none :=
  ⟨rfl, rfl, rfl, by simp, fun k hk _ => Below.heap_alloc w o k hk⟩
/-- What the iterator reads: its two captured variables, the net at work, the map. -/
structure ArcsEnv (W : World) (wv fv g b : Nat) (len : Nat) (src : Int) (f : Int → Int → Int → Int) : Prop where
  c1 : W.cell? ⟨wv, 0, none⟩ = some (.pointer (some ⟨g, 0, none⟩))
  c2 : W.cell? ⟨fv, 0, none⟩ = some (.int .i64 src)
  sl : ∃ A cap, W.cell? ⟨g, 0, none⟩ = some (.slice A len cap)
  mp : W.cell? ⟨g, 3, none⟩ = some (.map (some b))
  map : ArcMap W b f
/-- Four blocks lie as they lay. -/
structure KeepB (wv fv g b : Nat) (W W' : World) : Prop where
  size : W.heap.size ≤ W'.heap.size
  k1 : W'.heap[wv]? = W.heap[wv]?
  k2 : W'.heap[fv]? = W.heap[fv]?
  k3 : W'.heap[g]? = W.heap[g]?
  k4 : W'.heap[b]? = W.heap[b]?
theorem KeepB.refl (wv fv g b : Nat) (W : World) : KeepB wv fv g b W W := ⟨Nat.le_refl _, rfl, rfl, rfl, rfl⟩
theorem KeepB.trans {wv fv g b : Nat} {W W' W'' : World} (h : KeepB wv fv g b W W') (k : KeepB wv fv g b W' W'') : KeepB wv fv g b W W'' :=
  ⟨Nat.le_trans h.size k.size, k.k1.trans h.k1, k.k2.trans h.k2, k.k3.trans h.k3, k.k4.trans h.k4⟩
theorem KeepB.of_below {wv fv g b B : Nat} {W W' : World} (h : Below B W W') (h1 : wv < B) (h2 : fv < B) (h3 : g < B) (h4 : b < B) : KeepB wv fv g b W W' :=
  ⟨h.size, h.block _ h1, h.block _ h2, h.block _ h3, h.block _ h4⟩
theorem ArcsEnv.keep {W W' : World} {wv fv g b len : Nat} {src : Int} {f : Int → Int → Int → Int} (h : ArcsEnv W wv fv g b len src f) (k : KeepB wv fv g b W W') : ArcsEnv W' wv fv g b len src f := by
  obtain ⟨A, cap, hs⟩ := h.sl
  exact ⟨(World.cell?_of_block k.k1).trans h.c1, (World.cell?_of_block k.k2).trans h.c2, ⟨A, cap, (World.cell?_of_block k.k3).trans hs⟩, (World.cell?_of_block k.k3).trans h.mp, h.map.of_block k.k4⟩
theorem ArcsEnv.lts {W : World} {wv fv g b len : Nat} {src : Int} {f : Int → Int → Int → Int} (h : ArcsEnv W wv fv g b len src f) : wv < W.heap.size ∧ fv < W.heap.size ∧ g < W.heap.size ∧ b < W.heap.size :=
  ⟨World.block_lt_of_cell? W _ h.c1, World.block_lt_of_cell? W _ h.c2, World.block_lt_of_cell? W _ h.mp, h.map.lt⟩
/-- An arc from src along which something can still flow, by its end and its angle. -/
abbrev Arc (len : Nat) (src : Int) (f : Int → Int → Int → Int) := { p : Int × Int // 0 ≤ p.1 ∧ p.1 < 13 ∧ -1 ≤ p.2 ∧ p.2 < (len : Int) ∧ 0 < f src p.1 p.2 }
abbrev arcEncs (len : Nat) (src : Int) (f : Int → Int → Int → Int) (x : Arc len src f) : Array Value := #[.agg #[.int .i64 src, .int .i64 x.1.1, .int .i64 x.1.2], .int .i64 (f src x.1.1 x.1.2)]
def AllArcs (len : Nat) (src : Int) (f : Int → Int → Int → Int) (to i : Int) (xs : List (Arc len src f)) : Prop :=
  ∀ p : Arc len src f, (p.1.1 < to ∨ (p.1.1 = to ∧ p.1.2 < i)) → p ∈ xs
theorem allArcs_snoc {len : Nat} {src : Int} {f : Int → Int → Int → Int} {to i : Nat} {pre : List (Arc len src f)} {x : Arc len src f} (h : AllArcs len src f to ((i : Int) - 1) pre) (hx : x.1 = ((to : Int), (i : Int) - 1)) :
    AllArcs len src f to (((i + 1 : Nat) : Int) - 1) (pre ++ [x]) := by
  intro p hp
  by_cases e : p.1 = ((to : Int), (i : Int) - 1)
  · have : p = x := Subtype.ext (e.trans hx.symm)
    subst this
    simp
  · refine List.mem_append.2 (.inl (h p ?_))
    rcases hp with hp | ⟨h1, h2⟩
    · exact .inl hp
    · refine .inr ⟨h1, ?_⟩
      rcases Int.lt_or_le p.1.2 ((i : Int) - 1) with h3 | h3
      · exact h3
      · exact absurd (Prod.ext h1 (by show p.1.2 = (i : Int) - 1; omega)) e
theorem allArcs_skip {len : Nat} {src : Int} {f : Int → Int → Int → Int} {to i : Nat} {pre : List (Arc len src f)} (h : AllArcs len src f to ((i : Int) - 1) pre) (hx : ¬ 0 < f src to ((i : Int) - 1)) :
    AllArcs len src f to (((i + 1 : Nat) : Int) - 1) pre := by
  intro p hp
  refine h p ?_
  rcases hp with hp | ⟨h1, h2⟩
  · exact .inl hp
  · refine .inr ⟨h1, ?_⟩
    rcases Int.lt_or_le p.1.2 ((i : Int) - 1) with h3 | h3
    · exact h3
    · have h4 : p.1.2 = (i : Int) - 1 := by omega
      have := p.2.2.2.2.2
      rw [h1, h4] at this
      exact absurd this hx
theorem allArcs_row {len : Nat} {src : Int} {f : Int → Int → Int → Int} {to i : Nat} {pre : List (Arc len src f)} (hi : len + 1 ≤ i) (h : AllArcs len src f to ((i : Int) - 1) pre) :
    AllArcs len src f ((to + 1 : Nat) : Int) (-1) pre := by
  intro p hp
  refine h p ?_
  have := p.2
  omega
set_option maxRecDepth 100000 in
set_option maxHeartbeats 4000000 in
theorem arcs_stops (n : Nat) (wv fv g b len : Nat) (src : Int) (f : Int → Int → Int → Int) (w : World) (hlen : len ≤ 100) (hs0 : 0 ≤ src) (hs1 : src ≤ 12) (hE : ArcsEnv w wv fv g b len src f) :
    SeqStopsK Fence.wide n Try.prog 120 #[.pointer (some ⟨wv, 0, none⟩), .pointer (some ⟨fv, 0, none⟩)] (arcEncs len src f) (KeepB wv fv g b) (fun xs => AllArcs len src f 13 0 xs) (fun _ => True) 2000 w :=
  fun l J Jx W hW hJ hJx hY h0 => by
  have hE1 : ArcsEnv W wv fv g b len src f := hE.keep (KeepB.of_below hW hE.lts.1 hE.lts.2.1 hE.lts.2.2.1 hE.lts.2.2.2)
  clear hE hW
  refine callsIn_of_wp Try.func120 rfl trivial ?_ rfl
  simp only [Try.ntmps120, List.size_toArray, List.length_cons, List.length_nil, Nat.reduceAdd, Nat.reduceSub, Array.replicate_succ, Array.replicate_zero, List.push_toArray, List.append_toArray, List.nil_append, List.cons_append]
  gi_wp2
  gi_loopw [8] (fun t wr => ∃ to : Nat, to ≤ 13 ∧ t = .int .i64 to ∧ ∃ pre, J pre wr ∧ ArcsEnv wr wv fv g b len src f ∧ AllArcs len src f to (-1) pre ∧ pre.length ≤ to * 102 ∧ W.heap.size ≤ wr.heap.size)
    (fun t _ => 13 - (intOf t).toNat)
  case atStart =>
    exact ⟨0, by omega, rfl, [], h0, hE1, fun p hp => by have := p.2; omega, by simp, Nat.le_refl _⟩
  case round =>
    obtain ⟨to, hto, rfl, pre, hJs, hEs, hAll, hpl, hsz⟩ := hrel
    by_cases hlt : to < 13
    · have hlt' : decide ((to : Int) < 13) = true := by simp; omega
      gi_wp2
      obtain ⟨wo, rfl⟩ : ∃ wo : World, wo = wr := ⟨_, rfl⟩
      gi_loopw [5] (fun t wr => ∃ i : Nat, i ≤ len + 1 ∧ t = .int .i64 ((i : Int) - 1) ∧ ∃ pre, J pre wr ∧ ArcsEnv wr wv fv g b len src f ∧ AllArcs len src f to ((i : Int) - 1) pre ∧ pre.length ≤ to * 102 + i ∧ W.heap.size ≤ wr.heap.size)
        (fun t _ => ((len : Int) - intOf t).toNat)
      case atStart =>
        exact ⟨0, by omega, rfl, pre, hJs, hEs, hAll, by simpa using hpl, hsz⟩
      case round =>
        clear hJs hEs hAll hpl hsz pre
        obtain ⟨i, hi, rfl, pre, hJs, hEs, hAll, hpl, hsz⟩ := hrel
        obtain ⟨A, cap, hsl⟩ := hEs.sl
        have c1 := hEs.c1
        have c2 := hEs.c2
        have c3 := hEs.mp
        by_cases hil : i < len + 1
        · have hil' : decide ((i : Int) - 1 < (len : Int)) = true := by simp; omega
          have hkey : ∃ l, keyOf Try.prog 112 (arcV src to ((i : Int) - 1)) = some l := arc_key _ _ _ (wf_i64 ⟨by omega, by omega⟩) (wf_i64 ⟨by omega, by omega⟩) (wf_i64 ⟨by omega, by omega⟩)
          have hma : ArcMap (wr.alloc (.cells #[.int .i64 src, .int .i64 to, .int .i64 ((i : Int) - 1)] 112)) b f := hEs.map.of_block (Below.heap_alloc _ _ _ hEs.map.lt)
          have hlk : ∀ k, (Instr.lookup 151 (.map (some b)) (.agg #[.int .i64 src, .int .i64 to, .int .i64 ((i : Int) - 1)]) false).run Try.prog ((wr.alloc (.cells #[.int .i64 src, .int .i64 to, .int .i64 ((i : Int) - 1)] 112)).drewN k) = .ok (.int .i64 (f src to ((i : Int) - 1))) ((wr.alloc (.cells #[.int .i64 src, .int .i64 to, .int .i64 ((i : Int) - 1)] 112)).drewN k) := fun k =>
            (hma.of_block (w' := (wr.alloc (.cells #[.int .i64 src, .int .i64 to, .int .i64 ((i : Int) - 1)] 112)).drewN k) rfl).run_lookup hkey
          clear hkey hma
          have l1 := hEs.lts.1
          have l2 := hEs.lts.2.1
          have l3 := hEs.lts.2.2.1
          have HA := Lib.hid hAll
          clear hAll
          by_cases hp : 0 < f src to ((i : Int) - 1)
          · have hpb : decide ((0 : Int) < f src to ((i : Int) - 1)) = true := by simpa using hp
            gi_wp2
            gi_quiet (fail)
            obtain ⟨x, hx⟩ : ∃ x : Arc len src f, x.1 = ((to : Int), (i : Int) - 1) := ⟨⟨((to : Int), (i : Int) - 1), by simp; omega⟩, rfl⟩
            have hg1 : wr.grownBy ((wr.alloc (.cells #[.int .i64 src, .int .i64 to, .int .i64 ((i : Int) - 1)] 112)).drewN nq) none := grown_alloc_drewN wr _ nq
            have hkb : KeepB wv fv g b wr ((wr.alloc (.cells #[.int .i64 src, .int .i64 to, .int .i64 ((i : Int) - 1)] 112)).drewN nq) :=
              ⟨hg1.size, hg1.block _ l1 (by simp), hg1.block _ l2 (by simp), hg1.block _ l3 (by simp), hg1.block _ hEs.map.lt (by simp)⟩
            obtain ⟨fn, tmps, assign, body, hy, hR⟩ := hY pre x _ (hJ _ _ _ none hJs hg1 (by simp)) (by omega)
            dsimp only [arcEncs] at hy
            rw [hx] at hy
            have HX := Lib.hid hx
            clear hx
            gi_wp2
            refine ⟨fun h => (by simp [Fence.wide] at h), hR.mono ?_⟩
            rintro e W3 (⟨rfl, hJ3, hk3⟩ | ⟨rfl, hJx3⟩)
            · gi_wp2
              go_roundw
              case rel =>
                refine ⟨i + 1, by omega, by simp, pre ++ [x], hJ3, hEs.keep (hkb.trans hk3), ?_, by simp; omega, Nat.le_trans hsz (hkb.trans hk3).size⟩
                exact allArcs_snoc HA.out HX.out
              case measure => simp [intOf]; omega
            · gi_wp2
              refine bodyPost_ret (results_none rfl _ _ _) rfl ?_
              exact ⟨⟨_, rfl⟩, .inr ⟨_, trivial, hJx3⟩⟩
          · have hpb : decide ((0 : Int) < f src to ((i : Int) - 1)) = false := by simpa using hp
            gi_wp2
            gi_quiet (fail)
            have hg1 : wr.grownBy ((wr.alloc (.cells #[.int .i64 src, .int .i64 to, .int .i64 ((i : Int) - 1)] 112)).drewN nq) none := grown_alloc_drewN wr _ nq
            have hkb : KeepB wv fv g b wr ((wr.alloc (.cells #[.int .i64 src, .int .i64 to, .int .i64 ((i : Int) - 1)] 112)).drewN nq) :=
              ⟨hg1.size, hg1.block _ l1 (by simp), hg1.block _ l2 (by simp), hg1.block _ l3 (by simp), hg1.block _ hEs.map.lt (by simp)⟩
            gi_wp2
            refine ⟨fun _ h => (by cases h), ?_⟩
            gi_wp2
            go_roundw
            case rel =>
              refine ⟨i + 1, by omega, by simp, pre, hJ _ _ _ none hJs hg1 (by simp), hEs.keep hkb, ?_, by omega, Nat.le_trans hsz hkb.size⟩
              exact allArcs_skip HA.out (by omega)
            case measure => simp [intOf]; omega
        · have hil' : decide ((i : Int) - 1 < (len : Int)) = false := by simp; omega
          have HA := Lib.hid hAll
          clear hAll
          gi_wp2
          go_roundw
          case rel => exact ⟨to + 1, by omega, by simp, pre, hJs, hEs, allArcs_row (by omega) HA.out, by omega, hsz⟩
          case measure => simp [intOf]; omega
    · have hlt' : decide ((to : Int) < 13) = false := by simp; omega
      have HA := Lib.hid hAll
      clear hAll
      gi_wp2
      go_end0
      exact ⟨⟨_, rfl⟩, .inl ⟨pre, fun p _ => HA.out p (.inl (by have := p.2; omega)), hJs⟩⟩
end
end Go.Proofs.Ytkloaeaepjoijaa
namespace Go.Proofs.Ytkloaeaepjoijaa
section
theorem rows_wide {n l : Nat} {P : Program} {row : String} {args : Array Value} {w : World} {R : Value → World → Prop} (h : Rows P row args w R) : RowsIn (Fence.wide.inRound l) n P row args w R :=
  fun c cs _ => let ⟨v, w', r, s⟩ := h c cs; ⟨v, w', r, stepsIn_wide.2 s⟩
theorem depth_wide (l n : Nat) : (Fence.wide.inRound l).depth.isSome = true → 1 ≤ n := fun h => by simp [Fence.wide, Fence.inRound] at h
theorem wpOpIn_round {P : Program} {ops : Array Oper} {Q : Exit → Act → World → Prop} {l n i : Nat} {K : Act → World → Prop} {a : Act} {w : World}
    (hd : ∀ o c, ops[i]? = some o → o.op ≠ .defer c) (hQ : ¬ LetsOut Q) (h : wpOp P ops Q i K a w) : wpOpIn (Fence.wide.inRound l) n P ops Q i K a w := by
  unfold wpOpIn
  unfold wpOp at h
  cases ho : ops[i]? with
  | none => simp only [ho] at h ⊢; exact h
  | some o =>
    simp only [ho] at h ⊢
    by_cases hw : Region.wanted o (yielded ops a.tmps) = true
    · simp only [hw, if_true] at h ⊢
      rcases h with h | ⟨_, h⟩
      · refine ⟨fun _ _ => trivial, ?_⟩
        rw [Oper.semAt_eq _ _ _ (fun c => hd o c ho)]
        unfold Oper.wp at h
        generalize (execOp a.eval o).run P w = r at h
        cases r with
        | ok x w' =>
          cases x <;> simp only [Oper.upon, Oper.uponIn] at h ⊢ <;> first | exact h | skip
          · exact ⟨depth_wide l n, CallsIn.inRound l (callsIn_wide.2 h)⟩
          · exact ⟨depth_wide l n, rows_wide h⟩
        | halt x w' => cases x <;> simp only [Oper.upon, Oper.uponIn] at h ⊢ <;> exact h
      · exact absurd h hQ
    · simp only [hw] at h ⊢
      exact ⟨fun _ _ => trivial, h⟩
theorem wpAnyIn_round {P : Program} {md : Region.Mode} {ops : Array Oper} {Q : Exit → Act → World → Prop} {l n : Nat}
    (hd : ∀ (i : Nat) o c, ops[i]? = some o → o.op ≠ .defer c) (hQ : ¬ LetsOut Q) : ∀ (fuel : Nat) (listed : Array Bool) (a : Act) (w : World),
    wpAny P md ops Q fuel listed a w → wpAnyIn (Fence.wide.inRound l) n P md ops Q fuel listed a w
  | 0, _, _, _, h => h
  | fuel + 1, _, _, _, h => ⟨h.1, fun i hi => wpOpIn_mono (fun a' w' h' => wpAnyIn_round hd hQ fuel _ a' w' h') (wpOpIn_round (hd i) hQ (h.2 i hi))⟩
/-- The beginning of a held walk, in a round. -/
theorem wpIn_region_round {P : Program} {ops : Array Oper} {Q : Exit → Act → World → Prop} {S : World → Prop} {l n id : Nat} {a : Act} {w : World} (hm : P.follows .mixedOrders = true)
    (hd : ∀ (i : Nat) o c, ops[i]? = some o → o.op ≠ .defer c) (hQ : ¬ LetsOut Q) (hS : S w.drew)
    (h : S w.drew → wpAnyH P .any ops Q S ops.size (Array.replicate ops.size false) a w.drew) : (Code.region id ops true).wpIn (Fence.wide.inRound l) n P Q a w :=
  wpIn_region_any hm (wpAnyIn_round hd hQ _ _ _ _ (wpAny_of_held _ _ _ _ (h hS)))
/-- No operation of a list is a defer statement. -/
def noDefer : List Oper → Bool
  | [] => true
  | o :: r => (match o.op with | .defer _ => false | _ => true) && noDefer r
theorem noDefer_spec {ops : List Oper} (h : noDefer ops = true) : ∀ (i : Nat) o c, ops.toArray[i]? = some o → o.op ≠ .defer c := by
  intro i o c hi
  have hm : o ∈ ops := by
    have : ops[i]? = some o := by simpa using hi
    exact List.mem_of_getElem? this
  clear hi
  induction ops with
  | nil => cases hm
  | cons x r ih =>
    simp only [noDefer, Bool.and_eq_true] at h
    rcases List.mem_cons.1 hm with rfl | hm
    · intro e; rw [e] at h; simp at h
    · exact ih h.2 hm
end
end Go.Proofs.Ytkloaeaepjoijaa
namespace Go.Proofs.Ytkloaeaepjoijaa
section
open Go.RowKit Go.WalkArith Go.Shelf
attribute [local go_sem] Oper.semAt_some
/-- Block sb is the row of the nodes that were seen. -/
def SeenAt (W : World) (sb : Nat) (s : Int → Bool) : Prop :=
  ∃ cs t, W.heap[sb]? = some (.cells cs t (0, 0)) ∧ cs.size = 13 ∧ ∀ i : Nat, i < 13 → cs[i]? = some (.bool (s i))
def mark (s : Int → Bool) (v : Int) : Int → Bool := fun u => if u = v then true else s u
theorem mark_self (s : Int → Bool) (v : Int) : mark s v v = true := by simp [mark]
theorem mark_mono {s : Int → Bool} {v u : Int} (h : s u = true) : mark s v u = true := by unfold mark; split <;> simp_all
theorem SeenAt.cell {W : World} {sb : Nat} {s : Int → Bool} (h : SeenAt W sb s) {i : Nat} (hi : i < 13) : W.cell? ⟨sb, i, none⟩ = some (.bool (s i)) := by
  obtain ⟨cs, t, hb, hs, hc⟩ := h
  simp [World.cell?, hb, hc i hi]
theorem SeenAt.frozen {W : World} {sb : Nat} {s : Int → Bool} (h : SeenAt W sb s) (i : Nat) : W.frozen? ⟨sb, i, none⟩ = false := by
  obtain ⟨cs, t, hb, hs, hc⟩ := h
  simp [World.frozen?, hb]
theorem SeenAt.lt {W : World} {sb : Nat} {s : Int → Bool} (h : SeenAt W sb s) : sb < W.heap.size := by
  obtain ⟨cs, t, hb, _⟩ := h
  exact (Array.getElem?_eq_some_iff.1 hb).1
theorem SeenAt.of_block {W W' : World} {sb : Nat} {s : Int → Bool} (h : SeenAt W sb s) (hb : W'.heap[sb]? = W.heap[sb]?) : SeenAt W' sb s := by
  obtain ⟨cs, t, h1, h2⟩ := h
  exact ⟨cs, t, hb.trans h1, h2⟩
theorem SeenAt.set {W : World} {sb : Nat} {s : Int → Bool} (h : SeenAt W sb s) {v : Nat} (hv : v < 13) : SeenAt (W.setCell ⟨sb, v, none⟩ (.bool true)) sb (mark s v) := by
  obtain ⟨cs, t, hb, hs, hc⟩ := h
  refine ⟨cs.setIfInBounds v (.bool true), t, ?_, by simp [hs], fun i hi => ?_⟩
  · simp [World.setCell, Array.getElem?_modify, hb]
  · rw [Array.getElem?_setIfInBounds]
    by_cases e : v = i
    · subst e; simp [hs, hv, mark]
    · rw [if_neg e, hc i hi]
      unfold mark
      rw [if_neg (by omega)]
/-- Nothing that lay has turned, but the row of the nodes and the map. -/
structure WKeep (sb b : Nat) (W W' : World) : Prop where
  os : W'.os = W.os
  tape : W'.tape = W.tape
  output : W'.output = W.output
  size : W.heap.size ≤ W'.heap.size
  block : ∀ k, k < W.heap.size → k ≠ sb → k ≠ b → W'.heap[k]? = W.heap[k]?
theorem WKeep.refl (sb b : Nat) (W : World) : WKeep sb b W W := ⟨rfl, rfl, rfl, Nat.le_refl _, fun _ _ _ _ => rfl⟩
theorem WKeep.trans {sb b : Nat} {W W' W'' : World} (h : WKeep sb b W W') (k : WKeep sb b W' W'') : WKeep sb b W W'' :=
  ⟨k.os.trans h.os, k.tape.trans h.tape, k.output.trans h.output, Nat.le_trans h.size k.size, fun i hi h1 h2 => (k.block i (Nat.lt_of_lt_of_le hi h.size) h1 h2).trans (h.block i hi h1 h2)⟩
theorem WKeep.of_below {sb b B : Nat} {W W' : World} (h : Below B W W') (hB : W.heap.size ≤ B) : WKeep sb b W W' :=
  ⟨h.os, h.tape, h.output, h.size, fun k hk _ _ => h.block k (by omega)⟩
theorem WKeep.grown {sb b B : Nat} {W0 W W' : World} {row : Option Nat} (h : WKeep sb b W0 W) (hg : W.grownBy W' row) (hr : ∀ r, row = some r → W0.heap.size ≤ r) : WKeep sb b W0 W' :=
  ⟨hg.os.trans h.os, hg.tape.trans h.tape, hg.output.trans h.output, Nat.le_trans h.size hg.size, fun k hk h1 h2 => (hg.block k (Nat.lt_of_lt_of_le hk h.size) (fun e => by have := hr k e.symm; omega)).trans (h.block k hk h1 h2)⟩
theorem MapOnly.keep {b : Nat} {W W' : World} (h : MapOnly b W W') (sb : Nat) : WKeep sb b W W' := ⟨h.os, h.tape, h.output, Nat.le_of_eq h.size.symm, fun k _ _ h2 => h.block k h2⟩
/-- What the closure captures, and what lies behind it. -/
structure WEnv (W : World) (sb wv kv g b len : Nat) (s : Int → Bool) (f : Int → Int → Int → Int) : Prop where
  seen : SeenAt W sb s
  c1 : W.cell? ⟨wv, 0, none⟩ = some (.pointer (some ⟨g, 0, none⟩))
  c2 : W.cell? ⟨kv, 0, none⟩ = some (.func (.func 118) #[] #[.pointer (some ⟨sb, 0, none⟩), .pointer (some ⟨wv, 0, none⟩), .pointer (some ⟨kv, 0, none⟩)])
  sl : ∃ A cap, W.cell? ⟨g, 0, none⟩ = some (.slice A len cap)
  mp : W.cell? ⟨g, 3, none⟩ = some (.map (some b))
  map : ArcMap W b f
section
variable {W W' : World} {sb wv kv g b len : Nat} {s : Int → Bool} {f : Int → Int → Int → Int}
theorem WEnv.lts (h : WEnv W sb wv kv g b len s f) : sb < W.heap.size ∧ wv < W.heap.size ∧ kv < W.heap.size ∧ g < W.heap.size ∧ b < W.heap.size :=
  ⟨h.seen.lt, World.block_lt_of_cell? W _ h.c1, World.block_lt_of_cell? W _ h.c2, World.block_lt_of_cell? W _ h.mp, h.map.lt⟩
theorem cell_map_none {W : World} {b : Nat} {f : Int → Int → Int → Int} (h : ArcMap W b f) (i : Nat) : W.cell? ⟨b, i, none⟩ = none := by
  obtain ⟨es, clock, hb, _⟩ := h
  simp [World.cell?, hb]
theorem WEnv.nes (h : WEnv W sb wv kv g b len s f) : (wv ≠ sb ∧ wv ≠ b) ∧ (kv ≠ sb ∧ kv ≠ b) ∧ (g ≠ sb ∧ g ≠ b) ∧ sb ≠ b := by
  have hs := h.seen.cell (i := 0) (by omega)
  have hm := cell_map_none h.map
  have h1 := h.c1
  have h2 := h.c2
  have h3 := h.mp
  have hs3 := h.seen.cell (i := 3) (by omega)
  refine ⟨⟨?_, ?_⟩, ⟨?_, ?_⟩, ⟨?_, ?_⟩, ?_⟩
  · rintro rfl; rw [hs] at h1; cases h1
  · rintro rfl; rw [hm] at h1; cases h1
  · rintro rfl; rw [hs] at h2; cases h2
  · rintro rfl; rw [hm] at h2; cases h2
  · rintro rfl; rw [hs3] at h3; cases h3
  · rintro rfl; rw [hm] at h3; cases h3
  · rintro rfl; rw [hm] at hs; cases hs
theorem WEnv.keep {s' : Int → Bool} {f' : Int → Int → Int → Int} (h : WEnv W sb wv kv g b len s f) (k : WKeep sb b W W') (hs : SeenAt W' sb s') (hm : ArcMap W' b f') : WEnv W' sb wv kv g b len s' f' := by
  obtain ⟨⟨n1, n2⟩, ⟨n3, n4⟩, ⟨n5, n6⟩, _⟩ := h.nes
  obtain ⟨_, l1, l2, l3, _⟩ := h.lts
  obtain ⟨A, cap, hsl⟩ := h.sl
  exact ⟨hs, (World.cell?_of_block (k.block _ l1 n1 n2)).trans h.c1, (World.cell?_of_block (k.block _ l2 n3 n4)).trans h.c2,
    ⟨A, cap, (World.cell?_of_block (k.block _ l3 n5 n6)).trans hsl⟩, (World.cell?_of_block (k.block _ l3 n5 n6)).trans h.mp, hm⟩
end
/-- All that can be reached from what was newly seen was seen. -/
def Closed' (len : Nat) (s s' : Int → Bool) (f : Int → Int → Int → Int) : Prop :=
  ∀ u v i : Int, 0 ≤ u → u ≤ 12 → s' u = true → s u = false → 0 ≤ v → v < 13 → -1 ≤ i → i < (len : Int) → 0 < f u v i → s' v = true
/-- How a walk ends. -/
def WPost (sb b len : Nat) (src : Nat) (most : Int) (s : Int → Bool) (f : Int → Int → Int → Int) (W : World) (e : Ending) (W' : World) : Prop :=
  WKeep sb b W W' ∧
  ((e = .returned (.int .i64 0) ∧ W'.heap[b]? = W.heap[b]? ∧ ∃ s', SeenAt W' sb s' ∧ (∀ v, s v = true → s' v = true) ∧ s' src = true ∧ s' 12 = s 12 ∧ Closed' len s s' f) ∨
   (∃ got f', e = .returned (.int .i64 got) ∧ 0 < got ∧ got ≤ most ∧ ArcMap W' b f' ∧ Aug len s src got f f'))
/-- The same, its value told. -/
def WMid (sb b len : Nat) (src : Nat) (most : Int) (s : Int → Bool) (f : Int → Int → Int → Int) (W : World) (e : Ending) (W' : World) : Prop :=
  ∃ v : Int, e = .returned (.int .i64 v) ∧ WPost sb b len src most s f W (.returned (.int .i64 v)) W'
def WStep (sb b : Nat) (W X : World) : Prop := WKeep sb b W X ∧ X.heap[b]? = W.heap[b]? ∧ X.heap[sb]? = W.heap[sb]?
theorem WPost.rebase {sb b len src : Nat} {most : Int} {s : Int → Bool} {f : Int → Int → Int → Int} {W X W' : World} {e : Ending} (h : WPost sb b len src most s f X e W') (hk : WKeep sb b W X) (hb : X.heap[b]? = W.heap[b]?) :
    WMid sb b len src most s f W e W' := by
  obtain ⟨h1, ⟨rfl, h2, h3⟩ | ⟨got, f', rfl, h4⟩⟩ := h
  · exact ⟨0, rfl, hk.trans h1, .inl ⟨rfl, h2.trans hb, h3⟩⟩
  · exact ⟨got, rfl, hk.trans h1, .inr ⟨got, f', rfl, h4⟩⟩
theorem wstep_of (sb b : Nat) (W : World) (o : Obj) (hs : sb < W.heap.size) (hb : b < W.heap.size) : WStep sb b W ((W.alloc o).drew) :=
  ⟨⟨rfl, rfl, rfl, by simp, fun k hk _ _ => Below.heap_alloc W o k hk⟩, Below.heap_alloc W o b hb, Below.heap_alloc W o sb hs⟩
theorem arcs_any (g : Nat) (src : Int) (w : World) :
    Calls Try.prog 95 #[.pointer (some ⟨g, 0, none⟩), .int .i64 src] w fun e w' => e = .returned (.func (.func 120) #[] #[.pointer (some ⟨w.heap.size, 0, none⟩), .pointer (some ⟨w.heap.size + 1, 0, none⟩)]) ∧
      w' = (w.alloc (.cells #[.pointer (some ⟨g, 0, none⟩)] 136)).alloc (.cells #[.int .i64 src] 3) := by
  go_enter Try.func95, Try.ntmps95
  go_wp2
  go_ret
  exact ⟨rfl, rfl⟩
def capOk (f : Int → Int → Int → Int) : Prop := ∀ x y z, 0 ≤ f x y z ∧ f x y z + f y x z ≤ 1000000
theorem walk_last (sb wv kv b len : Nat) (most : Int) (s : Int → Bool) (f : Int → Int → Int → Int) (W : World) (hm : 0 < most) (hmap : ArcMap W b f) (hf : capOk f) :
    Calls Try.prog 118 #[.int .i64 ((12 : Nat) : Int), .int .i64 most, .pointer (some ⟨sb, 0, none⟩), .pointer (some ⟨wv, 0, none⟩), .pointer (some ⟨kv, 0, none⟩)] W (WPost sb b len 12 most s f W) := by
  have HF := Lib.hid hf
  clear hf
  go_enter Try.func118, Try.ntmps118
  go_wp2_with fail
  refine bodyPost_ret (v := .int .i64 most) (by simp [results, Try.results118, go_sem]) rfl ?_
  have hB : Below W.heap.size W ((W.alloc (.cells #[.int .i64 most] 3)).alloc (.cells #[.int .i64 most] 3)) := ((Below.refl _ _).alloc (Nat.le_refl _) _).alloc (by simp) _
  exact ⟨WKeep.of_below hB (Nat.le_refl _), .inr ⟨most, f, rfl, hm, Int.le_refl _, hmap.of_block (hB.block _ hmap.lt), Aug.last _ _ _ _ fun x y z => (HF.out x y z).1⟩⟩
def unseen (s : Int → Bool) : Nat := ((List.range 13).filter fun v => !s ((v : Nat) : Int)).length
theorem filter_length_le {α : Type} {p q : α → Bool} (l : List α) (h : ∀ x ∈ l, p x = true → q x = true) : (l.filter p).length ≤ (l.filter q).length := by
  induction l with
  | nil => simp
  | cons a r ih =>
    have ih' := ih fun x hx => h x (List.mem_cons_of_mem _ hx)
    simp only [List.filter_cons]
    cases hp : p a with
    | false => simp only [Bool.false_eq_true, if_false]; split <;> simp <;> omega
    | true => rw [h a (by simp) hp]; simp; omega
theorem filter_length_lt {α : Type} {p q : α → Bool} (l : List α) (h : ∀ x ∈ l, p x = true → q x = true) {a : α} (ha : a ∈ l) (hp : p a = false) (hq : q a = true) : (l.filter p).length < (l.filter q).length := by
  induction l with
  | nil => cases ha
  | cons c r ih =>
    simp only [List.filter_cons]
    rcases List.mem_cons.1 ha with rfl | ha'
    · rw [hp, hq]
      have := filter_length_le r fun x hx => h x (List.mem_cons_of_mem _ hx)
      simp; omega
    · have ih' := ih (fun x hx => h x (List.mem_cons_of_mem _ hx)) ha'
      cases hpc : p c with
      | false => simp only [Bool.false_eq_true, if_false]; split <;> simp <;> omega
      | true => rw [h c (by simp) hpc]; simp; omega
theorem unseen_lt {s s' : Int → Bool} (h : ∀ v, s v = true → s' v = true) {v : Nat} (hv : v < 13) (h1 : s v = false) (h2 : s' v = true) : unseen s' < unseen s := by
  refine filter_length_lt _ (fun x _ hx => ?_) (a := v) (List.mem_range.2 hv) (by simp [h2]) (by simp [h1])
  cases e : s x with
  | false => rfl
  | true => rw [h _ e] at hx; cases hx
/-- Between two rounds of the walk's loop. -/
def WInv (sb b len : Nat) (src : Nat) (s : Int → Bool) (f : Int → Int → Int → Int) (W0 : World) (pre : List (Arc len src f)) (W : World) : Prop :=
  WKeep sb b W0 W ∧ W.heap[b]? = W0.heap[b]? ∧ ∃ sc, SeenAt W sb sc ∧ (∀ v, s v = true → sc v = true) ∧ sc src = true ∧ sc 12 = s 12 ∧ Closed' len (mark s src) sc f ∧ ∀ x ∈ pre, sc x.1.1 = true
theorem WInv.own {sb b len src : Nat} {s : Int → Bool} {f : Int → Int → Int → Int} {W0 : World} (hb : b < W0.heap.size) (hs : sb < W0.heap.size) :
    OwnFrom W0.heap.size (WInv sb b len src s f W0) := by
  intro pre W W' row hi hg hr
  obtain ⟨hk, hm, sc, hsc, h1⟩ := hi
  have hge : ∀ r, row = some r → W0.heap.size ≤ r := fun r e => (hr r e).1
  have hbl : ∀ k, k < W0.heap.size → W'.heap[k]? = W.heap[k]? := fun k hk' => hg.block k (Nat.lt_of_lt_of_le hk' hk.size) (fun e => by have := hge k e.symm; omega)
  exact ⟨hk.grown (B := 0) hg hge, (hbl b hb).trans hm, sc, hsc.of_block (hbl sb hs), h1⟩
/-- Where the walk came through. -/
def WOut (sb b len : Nat) (src : Nat) (most : Int) (s : Int → Bool) (f : Int → Int → Int → Int) (w : World) (rb : Nat) (W : World) : Prop :=
  WKeep sb b w W ∧ ∃ got f', Boxed W rb 3 (.int .i64 got) ∧ 0 < got ∧ got ≤ most ∧ ArcMap W b f' ∧ Aug len s src got f f'
theorem WOut.own {β : Type} {sb b len src : Nat} {most : Int} {s : Int → Bool} {f : Int → Int → Int → Int} {w : World} {rb B : Nat} (hb : b < w.heap.size) (hB : w.heap.size ≤ B) :
    OwnFrom B (fun (_ : β) W => WOut sb b len src most s f w rb W) := by
  intro pre W W' row hi hg hr
  obtain ⟨hk, got, f', h1, h2, h3, h4, h5⟩ := hi
  have hge : ∀ r, row = some r → w.heap.size ≤ r := fun r e => by have := (hr r e).1; omega
  have hbl : ∀ k, k < w.heap.size → W'.heap[k]? = W.heap[k]? := fun k hk' => hg.block k (Nat.lt_of_lt_of_le hk' hk.size) (fun e => by have := hge k e.symm; omega)
  exact ⟨hk.grown (B := 0) hg hge, got, f', boxed_own rb 3 (fun (_ : Unit) => Value.int .i64 got) () W W' row h1 hg (fun r e => (hr r e).2), h2, h3, h4.of_block (hbl b hb), h5⟩
set_option maxRecDepth 100000 in
set_option maxHeartbeats 4000000 in
theorem walk_any (sb wv kv g b len : Nat) (hlen : len ≤ 100) : ∀ (k : Nat) (src : Nat) (most : Int) (s : Int → Bool) (f : Int → Int → Int → Int) (w : World), unseen s ≤ k → src ≤ 12 → s src = false → 0 < most → most ≤ 2000000000 →
    capOk f → WEnv w sb wv kv g b len s f →
    Calls Try.prog 118 #[.int .i64 (src : Int), .int .i64 most, .pointer (some ⟨sb, 0, none⟩), .pointer (some ⟨wv, 0, none⟩), .pointer (some ⟨kv, 0, none⟩)] w (WPost sb b len src most s f w) := by
  intro k
  induction k with
  | zero =>
    intro src most s f w hu hsrc hss
    have := unseen_lt (s := s) (s' := mark s src) (fun v h => mark_mono h) (by omega) hss (mark_self _ _)
    omega
  | succ k ih =>
    intro src most s f w hu hsrc hss hm0 hm1 hf hE
    by_cases hlast : src = 12
    · subst hlast
      exact walk_last sb wv kv b len most s f w hm0 hE.map hf
    · have IH := Lib.hid ih
      clear ih
      have HF := Lib.hid hf
      clear hf
      have HU := Lib.hid hu
      clear hu
      have HS := Lib.hid hss
      clear hss
      have hsb : ((src : Int) == 12) = false := by simp; omega
      have lts := hE.lts
      have nes := hE.nes
      obtain ⟨l1, l2, l3, l4, l5⟩ := lts
      have c1 := hE.c1
      have cs := hE.seen.cell (i := src) (by omega)
      have cf := hE.seen.frozen src
      refine callsIn_wide (n := 1) |>.1 ?_
      refine callsIn_of_wp_marks Try.func118 rfl trivial ?_
      simp only [Try.ntmps118, List.size_toArray, List.length_cons, List.length_nil, Nat.reduceAdd, Nat.reduceSub, Array.replicate_succ, Array.replicate_zero, List.push_toArray, List.append_toArray, List.nil_append, List.cons_append]
      gi_wp2_with (refine ⟨trivial, ?_⟩; gi_at_call 95; refine (callsIn_wide.2 (arcs_any _ _ _)).mono ?_; rintro e w' ⟨rfl, rfl⟩)
      have bM := ((((Boxed.new (w.setCell ⟨sb, src, none⟩ (.bool true)) 3 (.int .i64 most)).alloc (.cells #[.int .i64 0] 3)).alloc (.cells #[.pointer (some ⟨g, 0, none⟩)] 136)).alloc (.cells #[.int .i64 (src : Int)] 3))
      have bR := (((Boxed.new ((w.setCell ⟨sb, src, none⟩ (.bool true)).alloc (.cells #[.int .i64 most] 3)) 3 (.int .i64 0)).alloc (.cells #[.pointer (some ⟨g, 0, none⟩)] 136)).alloc (.cells #[.int .i64 (src : Int)] 3))
      have bW := ((Boxed.new (((w.setCell ⟨sb, src, none⟩ (.bool true)).alloc (.cells #[.int .i64 most] 3)).alloc (.cells #[.int .i64 0] 3)) 136 (.pointer (some ⟨g, 0, none⟩))).alloc (.cells #[.int .i64 (src : Int)] 3))
      have bF := (Boxed.new ((((w.setCell ⟨sb, src, none⟩ (.bool true)).alloc (.cells #[.int .i64 most] 3)).alloc (.cells #[.int .i64 0] 3)).alloc (.cells #[.pointer (some ⟨g, 0, none⟩)] 136)) 3 (.int .i64 (src : Int)))
      have hszs : (w.setCell ⟨sb, src, none⟩ (.bool true)).heap.size = w.heap.size := by simp
      simp only [World.size_alloc, hszs] at bM bR bW bF
      have hBel : Below w.heap.size (w.setCell ⟨sb, src, none⟩ (.bool true)) (((((w.setCell ⟨sb, src, none⟩ (.bool true)).alloc (.cells #[.int .i64 most] 3)).alloc (.cells #[.int .i64 0] 3)).alloc (.cells #[.pointer (some ⟨g, 0, none⟩)] 136)).alloc (.cells #[.int .i64 (src : Int)] 3)) :=
        ((((Below.refl _ _).alloc (by simp) _).alloc (by simp) _).alloc (by simp; omega) _).alloc (by simp; omega) _
      have hsz : (((((w.setCell ⟨sb, src, none⟩ (.bool true)).alloc (.cells #[.int .i64 most] 3)).alloc (.cells #[.int .i64 0] 3)).alloc (.cells #[.pointer (some ⟨g, 0, none⟩)] 136)).alloc (.cells #[.int .i64 (src : Int)] 3)).heap.size = w.heap.size + 4 := by simp
      obtain ⟨W0, hW0⟩ : ∃ W0, ((((w.setCell ⟨sb, src, none⟩ (.bool true)).alloc (.cells #[.int .i64 most] 3)).alloc (.cells #[.int .i64 0] 3)).alloc (.cells #[.pointer (some ⟨g, 0, none⟩)] 136)).alloc (.cells #[.int .i64 (src : Int)] 3) = W0 := ⟨_, rfl⟩
      rw [hW0] at bM bR bW bF hBel hsz ⊢
      clear hW0
      have hK0 : WKeep sb b w (w.setCell ⟨sb, src, none⟩ (.bool true)) := ⟨rfl, rfl, rfl, by simp, fun k hk h1 h2 => Below.heap_setCell _ _ _ _ h1⟩
      have hS1 : SeenAt W0 sb (mark s src) := (hE.seen.set (v := src) (by omega)).of_block (hBel.block _ l1)
      have hb0 : W0.heap[b]? = w.heap[b]? := (hBel.block _ l5).trans (Below.heap_setCell _ _ _ _ (fun h => nes.2.2.2 h.symm))
      have hM1 : ArcMap W0 b f := hE.map.of_block hb0
      have hKW : WKeep sb b w W0 := hK0.trans (WKeep.of_below hBel (by simp))
      have hE0 : WEnv W0 sb wv kv g b len (mark s src) f := hE.keep hKW hS1 hM1
      clear hBel hszs hK0 cs cf c1
      have hEA : ArcsEnv W0 (w.heap.size + 1 + 1) (w.heap.size + 1 + 1 + 1) g b len src f := ⟨bW.cell, bF.cell, hE0.sl, hE0.mp, hM1⟩
      have lts0 := hE0.lts
      refine wpIn_rangeFunc_ownH rfl (by omega) (gf := 120) (lb := #[.pointer (some ⟨w.heap.size + 1 + 1, 0, none⟩), .pointer (some ⟨w.heap.size + 1 + 1 + 1, 0, none⟩)]) rfl trivial (enters_of Try.func120 (by kernel_rfl) rfl)
        (arcs_stops (1 - 1) (w.heap.size + 1 + 1) (w.heap.size + 1 + 1 + 1) g b len src f W0 hlen (by omega) (by omega) hEA) KeepB.trans
        (fun W l o o' hl h _ _ => ?kb) (Below.refl _ _) (fun _ => rfl)
        (WInv sb b len src s f W0)
        (fun c _ W => c = .ret ∧ WOut sb b len src most s f w (w.heap.size + 1) W)
        (WInv.own lts0.2.2.2.2 lts0.1)
        (fun c s W W' row hs hg hr => ⟨hs.1, WOut.own (β := Unit) l5 (by omega) () W W' row hs.2 hg hr⟩)
        ?start
        (fun x a' W => ∃ Bx, w.heap.size + 4 ≤ Bx ∧ W.heap[Bx]? = some (.cells #[.int .i64 (src : Int), .int .i64 x.1.1, .int .i64 x.1.2] 112 (0, 0)) ∧ a' = { tmps := #[.int .i64 (src : Int), .int .i64 most, .pointer (some ⟨sb, 0, none⟩), .pointer (some ⟨wv, 0, none⟩), .pointer (some ⟨kv, 0, none⟩), undef, .pointer (some ⟨w.heap.size, 0, none⟩), .pointer (some ⟨w.heap.size + 1, 0, none⟩), .pointer (some ⟨Bx, 0, none⟩), .int .i64 (f src x.1.1 x.1.2), undef, .int .i64 (src : Int), .bool false, undef, .int .i64 (src : Int), .pointer (some ⟨sb, src, none⟩), .pointer (some ⟨g, 0, none⟩), .int .i64 (src : Int), .func (.func 120) #[] #[.pointer (some ⟨w.heap.size + 1 + 1, 0, none⟩), .pointer (some ⟨w.heap.size + 1 + 1 + 1, 0, none⟩)], .agg #[.int .i64 (src : Int), .int .i64 x.1.1, .int .i64 x.1.2], .int .i64 (f src x.1.1 x.1.2), undef, undef, undef, undef, undef, undef, undef, undef, undef, undef, undef, undef, undef, undef, undef, undef, undef, undef, undef], defers := [] })
        ?hAx ?assign ?body ?done ?stop
      case kb =>
        have hne : ∀ k, k < w.heap.size + 4 → (W.putObj l o').heap[k]? = W.heap[k]? := fun k hk => World.putObj_heap_other (by omega)
        exact ⟨by simp [World.putObj], hne _ (by omega), hne _ (by omega), hne _ (by omega), hne _ (by omega)⟩
      case start =>
        exact ⟨WKeep.refl _ _ _, rfl, mark s src, hS1, fun v h => mark_mono h, mark_self _ _, by unfold mark; rw [if_neg (by omega)], (fun u v i _ _ h1 h2 => by rw [h1] at h2; cases h2), (fun x hx => by cases hx)⟩
      case hAx =>
        intro x a' _ X Y row hs hg hr
        obtain ⟨Bx, h1, h2, h3⟩ := hs
        refine ⟨Bx, h1, (hg.block Bx (Array.getElem?_eq_some_iff.1 h2).1 (fun e => ?_)).trans h2, h3⟩
        obtain ⟨_, o, ho, hc⟩ := hr Bx e.symm
        rw [h2] at ho
        cases ho
        cases hc
      case assign =>
        rintro l pre x W K hi hK
        gi_wp2
        have hg1 : W.grownBy (W.alloc (.cells #[.int .i64 (src : Int), .int .i64 x.1.1, .int .i64 x.1.2] 112)) none := World.grownBy_alloc W _ none
        have hsW := hi.1.size
        refine hK _ _ ((KeepsOthers.alloc _ _).from _) ⟨hg1.size, hg1.block _ (by omega) (by simp), hg1.block _ (by omega) (by simp), hg1.block _ (by omega) (by simp), hg1.block _ (by omega) (by simp)⟩
          (WInv.own lts0.2.2.2.2 lts0.1 _ _ _ none hi hg1 (by simp)) ⟨W.heap.size, by omega, heap_alloc_new W _, rfl⟩
      case body =>
        rintro l pre ⟨⟨to', i'⟩, hx0, hx1, hx2, hx3, hx4⟩ a' W hl hr hi ⟨Bx, hBx, bX, rfl⟩ hlenN
        dsimp only at hx0 hx1 hx2 hx3 hx4 bX ⊢
        obtain ⟨hKW1, hmW, sc, hsc, hs1, hs2, hs3, hs4, hs5⟩ := hi
        obtain ⟨to, rfl⟩ := Int.eq_ofNat_of_zero_le hx0
        have cx0 : W.cell? ⟨Bx, 0, none⟩ = some (.int .i64 (src : Int)) := by simp [World.cell?, bX]
        have cx1 : W.cell? ⟨Bx, 1, none⟩ = some (.int .i64 (to : Int)) := by simp [World.cell?, bX]
        have cx2 : W.cell? ⟨Bx, 2, none⟩ = some (.int .i64 i') := by simp [World.cell?, bX]
        have cseen := hsc.cell (i := to) (by omega)
        have H5 := Lib.hid hs5
        clear hs5
        have H1 := Lib.hid hs1
        clear hs1
        cases hsee : sc to with
        | true =>
          rw [hsee] at cseen
          gi_wp2
          exact ⟨KeepsFrom.refl _ _, KeepB.refl _ _ _ _ _, hKW1, hmW, sc, hsc, H1.out, hs2, hs3, hs4, fun y hy => by
            rcases List.mem_append.1 hy with h | h
            · exact H5.out y h
            · rw [List.mem_singleton.1 h]; exact hsee⟩
        | false =>
          rw [hsee] at cseen
          have hEW : WEnv W sb wv kv g b len sc f := hE0.keep hKW1 hsc (hM1.of_block hmW)
          have ck := hEW.c2
          have cg := hEW.c1
          have cm : W.cell? ⟨w.heap.size, 0, none⟩ = some (.int .i64 most) := (World.cell?_of_block (a := ⟨w.heap.size, 0, none⟩) (hKW1.block w.heap.size (by omega) (by omega) (by omega))).trans bM.cell
          have hcall : ∀ X, WStep sb b W X → Calls Try.prog 118 #[.int .i64 (to : Int), .int .i64 (min most (f src to i')), .pointer (some ⟨sb, 0, none⟩), .pointer (some ⟨wv, 0, none⟩), .pointer (some ⟨kv, 0, none⟩)] X (WMid sb b len to (min most (f src to i')) sc f W) := by
            intro X hX
            have hu : unseen sc ≤ k := by
              have := unseen_lt (s := s) (s' := sc) H1.out (v := src) (by omega) HS.out hs2
              have := HU.out
              omega
            refine (IH.out to (min most (f src to i')) sc f X hu (by omega) hsee (by omega) (by omega) HF.out (hEW.keep hX.1 (hsc.of_block hX.2.2) (hEW.map.of_block hX.2.1))).mono ?_
            intro e w' hp
            exact hp.rebase hX.1 hX.2.1
          have hszW := hKW1.size
          have hl1 : Bx < W.heap.size := (Array.getElem?_eq_some_iff.1 bX).1
          have hl2 : kv < W.heap.size := by omega
          have hl3 : w.heap.size < W.heap.size := by omega
          have HC := Lib.hid hcall
          clear hcall
          gi_wp2_with fail
          gi_cut [10] from 25 (fun s10 wc => ∃ v : Int, s10 = .int .i64 v ∧ WPost sb b len to (min most (f src to i')) sc f W (.returned (.int .i64 v)) wc)
          case first =>
            refine wpIn_region_round (S := fun X => X.cell? ⟨kv, 0, none⟩ = some (.func (.func 118) #[] #[.pointer (some ⟨sb, 0, none⟩), .pointer (some ⟨wv, 0, none⟩), .pointer (some ⟨kv, 0, none⟩)]) ∧ X.cell? ⟨Bx, 1, none⟩ = some (.int .i64 (to : Int)) ∧ X.cell? ⟨w.heap.size, 0, none⟩ = some (.int .i64 most)) (by kernel_rfl) (noDefer_spec (by rfl)) (fun ⟨_, _, h⟩ => h) ⟨by simp [ck], by simp [cx1], by simp [cm]⟩ (fun hS => ?_)
            refine wpAnyH_take (i := 0) (oi := { dst := some 25, op := Op.load 146 (Operand.tmp 4), type := 146, pos := "angle.go:183", after := #[], guard := none }) (v := ?_) rfl (by kernel_rfl) (by kernel_rfl) (by kernel_rfl) (fun _ _ _ h => h) (Or.inl ⟨by rfl, ?_⟩) hS ?_
            rotate_left
            · intro X hX
              try dsimp only at hX
              obtain ⟨x1, x2, x3⟩ := hX
              go_simp
              try with_reducible rfl
            simp only [Act.put, List.setIfInBounds_toArray, List.set_cons_zero, List.set_cons_succ]
            refine wpAnyH_take (i := 1) (oi := { dst := some 26, op := Op.fieldAddr 112 (Operand.tmp 8) 1, type := 0, pos := "angle.go:183", after := #[], guard := none }) (v := ?_) rfl (by kernel_rfl) (by kernel_rfl) (by kernel_rfl) (fun _ _ _ h => h) (Or.inl ⟨by rfl, ?_⟩) hS ?_
            rotate_left
            · intro X hX
              try dsimp only at hX
              obtain ⟨x1, x2, x3⟩ := hX
              go_simp
              try with_reducible rfl
            simp only [Act.put, List.setIfInBounds_toArray, List.set_cons_zero, List.set_cons_succ]
            refine wpAnyH_take (i := 2) (oi := { dst := some 27, op := Op.load 3 (Operand.tmp 26), type := 3, pos := "angle.go:183", after := #[{ on := 1, ground := Ground.data }], guard := none }) (v := ?_) rfl (by kernel_rfl) (by kernel_rfl) (by kernel_rfl) (fun _ _ _ h => h) (Or.inl ⟨by rfl, ?_⟩) hS ?_
            rotate_left
            · intro X hX
              try dsimp only at hX
              obtain ⟨x1, x2, x3⟩ := hX
              go_simp
              try with_reducible rfl
            simp only [Act.put, List.setIfInBounds_toArray, List.set_cons_zero, List.set_cons_succ]
            refine wpAnyH_take (i := 3) (oi := { dst := some 28, op := Op.load 3 (Operand.tmp 6), type := 3, pos := "angle.go:183", after := #[], guard := none }) (v := ?_) rfl (by kernel_rfl) (by kernel_rfl) (by kernel_rfl) (fun _ _ _ h => h) (Or.inl ⟨by rfl, ?_⟩) hS ?_
            rotate_left
            · intro X hX
              try dsimp only at hX
              obtain ⟨x1, x2, x3⟩ := hX
              go_simp
              try with_reducible rfl
            simp only [Act.put, List.setIfInBounds_toArray, List.set_cons_zero, List.set_cons_succ]
            refine wpAnyH_take (i := 4) (oi := { dst := some 29, op := Op.move (Operand.tmp 9), type := 3, pos := "angle.go:183", after := #[], guard := none }) (v := ?_) rfl (by kernel_rfl) (by kernel_rfl) (by kernel_rfl) (fun _ _ _ h => h) (Or.inl ⟨by rfl, ?_⟩) hS ?_
            rotate_left
            · intro X hX
              try dsimp only at hX
              obtain ⟨x1, x2, x3⟩ := hX
              go_simp
              try with_reducible rfl
            simp only [Act.put, List.setIfInBounds_toArray, List.set_cons_zero, List.set_cons_succ]
            refine wpAnyH_ready (rs := [5]) (by kernel_rfl) (by simp) (AllReadyH.cons (o := { dst := some 30, op := Op.buildSlice 25 2 #[(0, Operand.tmp 28), (1, Operand.tmp 29)], type := 25, pos := "angle.go:183", after := #[{ on := 3, ground := Ground.data }, { on := 4, ground := Ground.data }], guard := none }) rfl (fun K hK => ?_) AllReadyH.nil)
            go_simp
            refine hK.out _ _ ⟨by rw [World.cell?_drew, World.cell?_alloc_lt _ _ _ hl2]; exact ck, by rw [World.cell?_drew, World.cell?_alloc_lt _ _ _ hl1]; exact cx1, by rw [World.cell?_drew, World.cell?_alloc_lt _ _ _ hl3]; exact cm⟩ (fun hS' => ?_)
            clear hS hK K
            refine wpAnyH_ready (rs := [6]) (by kernel_rfl) (by simp) (AllReadyH.cons (o := { dst := some 31, op := Op.call { callee := Callee.value (Operand.func 96), args := #[Operand.tmp 30], argTypes := #[25] }, type := 3, pos := "angle.go:183", after := #[{ on := 5, ground := Ground.data }], guard := none }) rfl (fun K hK => ?_) AllReadyH.nil)
            go_simp
            refine (smallest_two _ most (f src to i') _ (by simp) (by simp)).mono ?_
            rintro e w' ⟨rfl, rfl⟩
            go_wp2_with fail
            refine hK.out _ _ hS' (fun hS => ?_)
            clear hS' hK K
            refine wpAnyH_ready (rs := [7]) (by kernel_rfl) (by simp) (AllReadyH.cons (o := { dst := some 32, op := Op.call { callee := Callee.value (Operand.tmp 25), args := #[Operand.tmp 27, Operand.tmp 31], argTypes := #[3, 3] }, type := 3, pos := "angle.go:183", after := #[{ on := 0, ground := Ground.data }, { on := 2, ground := Ground.data }, { on := 6, ground := Ground.data }, { on := 6, ground := Ground.chain }], guard := none }) rfl (fun K hK => ?_) AllReadyH.nil)
            go_simp
            refine (HC.out _ (by exact wstep_of _ _ _ _ (by omega) (by omega))).mono ?_
            rintro e w' ⟨v, rfl, hp⟩
            go_wp2_with fail
            have hkX := hp.1
            have hS2 : w'.cell? ⟨kv, 0, none⟩ = some (.func (.func 118) #[] #[.pointer (some ⟨sb, 0, none⟩), .pointer (some ⟨wv, 0, none⟩), .pointer (some ⟨kv, 0, none⟩)]) ∧ w'.cell? ⟨Bx, 1, none⟩ = some (.int .i64 (to : Int)) ∧ w'.cell? ⟨w.heap.size, 0, none⟩ = some (.int .i64 most) :=
              ⟨(World.cell?_of_block (a := ⟨kv, 0, none⟩) (hkX.block kv (by omega) (by omega) (by omega))).trans ck, (World.cell?_of_block (a := ⟨Bx, 1, none⟩) (hkX.block Bx (by omega) (by omega) (by omega))).trans cx1, (World.cell?_of_block (a := ⟨w.heap.size, 0, none⟩) (hkX.block w.heap.size (by omega) (by omega) (by omega))).trans cm⟩
            refine hK.out _ _ hS2 (fun hS' => ?_)
            clear hS hK K hkX
            refine wpAnyH_ready (rs := [8]) (by kernel_rfl) (by simp) (AllReadyH.cons (o := { dst := some 10, op := Op.assign (Operand.tmp 32), type := 3, pos := "angle.go:183", after := #[{ on := 7, ground := Ground.data }, { on := 7, ground := Ground.chain }, { on := 0, ground := Ground.phase }, { on := 1, ground := Ground.phase }, { on := 2, ground := Ground.phase }, { on := 3, ground := Ground.phase }, { on := 4, ground := Ground.phase }, { on := 5, ground := Ground.phase }, { on := 6, ground := Ground.phase }, { on := 7, ground := Ground.phase }], guard := none }) rfl (fun K hK => ?_) AllReadyH.nil)
            go_simp
            refine hK.out _ _ hS2 (fun hS => ?_)
            clear hS hK K hS' hS2
            refine wpAnyH_done (by kernel_rfl) ?_ _
            gi_wp2
            gi_meet
            case rel => exact ⟨v, rfl, hp⟩
          case rest =>
            obtain ⟨v, rfl, hk, hcase⟩ := hcut
            have hszC := hk.size
            have hkf : KeepsFrom W0.heap.size W wc := ⟨hk.size, fun j o hj ho _ => (hk.block j (Array.getElem?_eq_some_iff.1 ho).1 (by omega) (by omega)).trans ho⟩
            rcases hcase with ⟨hv, hbm, s', hs', hm1, hm2, hm3, hm4⟩ | ⟨got, f', hv, hg0, hg1, hmap', hA⟩
            · obtain rfl : v = 0 := by simpa using hv
              clear hv
              have HM1 := Lib.hid hm1
              clear hm1
              have HM4 := Lib.hid hm4
              clear hm4
              have HS4 := Lib.hid hs4
              clear hs4
              gi_wp2
              refine ⟨hkf, ⟨hk.size, ?_, ?_, ?_, hbm⟩, hKW1.trans hk, hbm.trans hmW, s', hs', fun u hu => HM1.out _ (H1.out u hu), HM1.out _ hs2, hm3.trans hs3, ?_, ?_⟩
              · exact hk.block _ (by omega) (by omega) (by omega)
              · exact hk.block _ (by omega) (by omega) (by omega)
              · exact hk.block _ (by omega) (by omega) (by omega)
              · intro u y i h1 h2 h3 h4 h5 h6 h7 h8 h9
                cases hu : sc u with
                | true => exact HM1.out _ (HS4.out u y i h1 h2 hu h4 h5 h6 h7 h8 h9)
                | false => exact HM4.out u y i h1 h2 h3 hu h5 h6 h7 h8 h9
              · intro y hy
                rcases List.mem_append.1 hy with h | h
                · exact HM1.out _ (H5.out y h)
                · rw [List.mem_singleton.1 h]; exact hm2
            · obtain rfl : v = got := by simpa using hv
              clear hv
              have cw : wc.cell? ⟨wv, 0, none⟩ = some (.pointer (some ⟨g, 0, none⟩)) := (World.cell?_of_block (a := ⟨wv, 0, none⟩) (hk.block wv (by omega) (by omega) (by omega))).trans cg
              have cmp : wc.cell? ⟨g, 3, none⟩ = some (.map (some b)) := (World.cell?_of_block (a := ⟨g, 3, none⟩) (hk.block g (by omega) (by omega) (by omega))).trans hEW.mp
              have hBk := hk.block Bx (by omega) (by omega) (by omega)
              have cy0 : wc.cell? ⟨Bx, 0, none⟩ = some (.int .i64 (src : Int)) := (World.cell?_of_block (a := ⟨Bx, 0, none⟩) hBk).trans cx0
              have cy1 : wc.cell? ⟨Bx, 1, none⟩ = some (.int .i64 (to : Int)) := (World.cell?_of_block (a := ⟨Bx, 1, none⟩) hBk).trans cx1
              have cy2 : wc.cell? ⟨Bx, 2, none⟩ = some (.int .i64 i') := (World.cell?_of_block (a := ⟨Bx, 2, none⟩) hBk).trans cx2
              have bRc : Boxed wc (w.heap.size + 1) 3 (.int .i64 0) := (hk.block (w.heap.size + 1) (by omega) (by omega) (by omega)).trans ((hKW1.block (w.heap.size + 1) (by omega) (by omega) (by omega)).trans bR)
              have hf1 := hA.nn src to i'
              have hf2 := hA.nn to src i'
              have hf3 := hA.pair src to i'
              have hf4 := HF.out src to i'
              have HP := Lib.hid (push_any g b src to i' v f' wc (by omega) (by omega) (by omega) (by omega) (by omega) (by omega) (by omega) (by omega) cmp hmap' (by omega) (by omega) (by omega) (by omega))
              have hvg : v ≤ f src to i' := by omega
              have hvm : v ≤ most := by omega
              have hvb : decide (0 < v) = true := by simpa using hg0
              have HA := Lib.hid hA
              clear hA hf1 hf2 hf3 hf4 cmp
              have hrl : w.heap.size + 1 < wc.heap.size := bRc.lt
              gi_wp2_with fail
              refine ⟨trivial, rfl, ?_⟩
              refine (CallsIn.inRound l (callsIn_wide.2 HP.out)).mono ?_
              rintro e w3 ⟨rfl, hm3, ho3⟩
              have bR3 : Boxed w3 (w.heap.size + 1) 3 (.int .i64 0) := (ho3.block _ (by omega)).trans ((Below.heap_alloc _ _ _ hrl).trans bRc)
              have cR3 : w3.cell? ⟨w.heap.size + 1, 0, none⟩ = some (.int .i64 0) := bR3.cell
              have fR3 : w3.frozen? ⟨w.heap.size + 1, 0, none⟩ = false := bR3.frozen
              have hk3 : WKeep sb b W w3 := hk.trans (WKeep.trans (WKeep.of_below ((Below.refl _ _).alloc (Nat.le_refl _) _) (Nat.le_refl _)) (ho3.keep sb))
              have hs3z := hk3.size
              gi_wp2
              have hsame : ∀ j, j ≠ w.heap.size + 1 → (w3.setCell ⟨w.heap.size + 1, 0, none⟩ (.int .i64 v)).heap[j]? = w3.heap[j]? := fun j hj => Below.heap_setCell _ _ _ _ hj
              refine ⟨⟨by simpa using hs3z, fun j o hj ho hc => ?_⟩, rfl, ?_, v, pushF f' src to i' v, bR3.set _, hg0, hvm, hm3.of_block (hsame b (by omega)), ?_⟩
              · have hne : j ≠ w.heap.size + 1 := by
                  rintro rfl
                  have := (hKW1.block (w.heap.size + 1) (by omega) (by omega) (by omega)).trans bR
                  rw [this] at ho
                  cases ho
                  cases hc
                exact (hsame j hne).trans ((hk3.block j (Array.getElem?_eq_some_iff.1 ho).1 (by omega) (by omega)).trans ho)
              · have hkw := (hKW.trans hKW1).trans hk3
                exact ⟨hkw.os, hkw.tape, hkw.output, by simpa using hkw.size, fun j hj h1 h2 => (hsame j (by omega)).trans (hkw.block j hj h1 h2)⟩
              · exact HA.out.push (fun x y z => (HF.out x y z).1) H1.out hs2 HS.out hsee (by omega) (by omega) (by omega) (by omega) hx2 hx3 (by omega) hvg
      case done =>
        rintro D xs W hD hAll ⟨hk1, hm1, sc, hsc, hs1, hs2, hs3, hs4, hs5⟩ hKD
        have bR1 : Boxed W (w.heap.size + 1) 3 (.int .i64 0) := (hk1.block (w.heap.size + 1) (by omega) (by omega) (by omega)).trans bR
        have cR := bR1.cell
        have fR := bR1.frozen
        have H1 := Lib.hid hs1
        have H5 := Lib.hid hs5
        have HAll := Lib.hid hAll
        have H4 := Lib.hid hs4
        clear hs1 hs5 hAll hs4
        gi_wp2
        have hsame : ∀ j, j ≠ w.heap.size + 1 → (W.setCell ⟨w.heap.size + 1, 0, none⟩ (.int .i64 0)).heap[j]? = W.heap[j]? := fun j hj => Below.heap_setCell _ _ _ _ hj
        have hKD' := (hsame D (by omega)).trans hKD
        have bR2 := bR1.set (.int .i64 0)
        refine ⟨by simp, .inl ⟨_, _, rfl, run_takeDeferred hKD', ?_⟩⟩
        have hput : ∀ j, j ≠ D → ((W.setCell ⟨w.heap.size + 1, 0, none⟩ (.int .i64 0)).putObj D (.deferred none)).heap[j]? = (W.setCell ⟨w.heap.size + 1, 0, none⟩ (.int .i64 0)).heap[j]? := fun j hj => World.putObj_heap_other hj
        have cR9 : ((W.setCell ⟨w.heap.size + 1, 0, none⟩ (.int .i64 0)).putObj D (.deferred none)).cell? ⟨w.heap.size + 1, 0, none⟩ = some (.int .i64 0) := (World.cell?_of_block (a := ⟨w.heap.size + 1, 0, none⟩) (hput (w.heap.size + 1) (by omega))).trans bR2.cell
        have hall : ∀ j, j < w.heap.size → ((W.setCell ⟨w.heap.size + 1, 0, none⟩ (.int .i64 0)).putObj D (.deferred none)).heap[j]? = W.heap[j]? := fun j hj => (hput j (by omega)).trans (hsame j (by omega))
        have hsz9 : ((W.setCell ⟨w.heap.size + 1, 0, none⟩ (.int .i64 0)).putObj D (.deferred none)).heap.size = W.heap.size := by simp [World.putObj]
        have hos9 : ((W.setCell ⟨w.heap.size + 1, 0, none⟩ (.int .i64 0)).putObj D (.deferred none)).os = W.os ∧ ((W.setCell ⟨w.heap.size + 1, 0, none⟩ (.int .i64 0)).putObj D (.deferred none)).tape = W.tape ∧ ((W.setCell ⟨w.heap.size + 1, 0, none⟩ (.int .i64 0)).putObj D (.deferred none)).output = W.output := ⟨rfl, rfl, rfl⟩
        generalize (W.setCell ⟨w.heap.size + 1, 0, none⟩ (.int .i64 0)).putObj D (.deferred none) = W9 at *
        have hkw := hKW.trans hk1
        refine ⟨.int .i64 0, by simp [results, Try.results118, go_sem, cR9], ⟨hos9.1.trans hkw.os, hos9.2.1.trans hkw.tape, hos9.2.2.trans hkw.output, by rw [hsz9]; exact hkw.size, fun j hj h1 h2 => (hall j hj).trans (hkw.block j hj h1 h2)⟩, .inl ⟨rfl, ((hall b l5).trans hm1).trans hb0, sc, hsc.of_block (hall sb l1), H1.out, hs2, hs3, ?_⟩⟩
        intro u v i h1 h2 h3 h4 h5 h6 h7 h8 h9
        by_cases hus : u = src
        · subst hus
          exact H5.out ⟨(v, i), h5, h6, h7, h8, h9⟩ (HAll.out ⟨(v, i), h5, h6, h7, h8, h9⟩ (.inl h6))
        · exact H4.out u v i h1 h2 h3 (by unfold mark; rw [if_neg hus]; exact h4) h5 h6 h7 h8 h9
      case stop =>
        rintro D c xs W hD _ ⟨rfl, hO⟩ hKD
        gi_wp2
        refine ⟨by simp, .inl ⟨_, _, rfl, run_takeDeferred hKD, ?_⟩⟩
        obtain ⟨hkO, got, f', hb1, h2, h3, h4, h5⟩ := hO
        have hput : ∀ j, j ≠ D → (W.putObj D (.deferred none)).heap[j]? = W.heap[j]? := fun j hj => World.putObj_heap_other hj
        have cR9 : (W.putObj D (.deferred none)).cell? ⟨w.heap.size + 1, 0, none⟩ = some (.int .i64 got) := (World.cell?_of_block (a := ⟨w.heap.size + 1, 0, none⟩) (hput (w.heap.size + 1) (by omega))).trans hb1.cell
        have hsz9 : (W.putObj D (.deferred none)).heap.size = W.heap.size := by simp [World.putObj]
        have hos9 : (W.putObj D (.deferred none)).os = W.os ∧ (W.putObj D (.deferred none)).tape = W.tape ∧ (W.putObj D (.deferred none)).output = W.output := ⟨rfl, rfl, rfl⟩
        generalize W.putObj D (.deferred none) = W9 at *
        exact ⟨.int .i64 got, by simp [results, Try.results118, go_sem, cR9], ⟨hos9.1.trans hkO.os, hos9.2.1.trans hkO.tape, hos9.2.2.trans hkO.output, by rw [hsz9]; exact hkO.size, fun j hj h1 h2 => (hput j (by omega)).trans (hkO.block j hj h1 h2)⟩,
          .inr ⟨got, f', rfl, h2, h3, h4.of_block (hput b (by omega)), h5⟩⟩
end
end Go.Proofs.Ytkloaeaepjoijaa
namespace Go.Proofs.Ytkloaeaepjoijaa
section
open Go.RowKit Go.WalkArith Go.Shelf
/-- Nothing that lay has turned, but the map. -/
structure MKeep (b : Nat) (W W' : World) : Prop where
  os : W'.os = W.os
  tape : W'.tape = W.tape
  output : W'.output = W.output
  size : W.heap.size ≤ W'.heap.size
  block : ∀ k, k < W.heap.size → k ≠ b → W'.heap[k]? = W.heap[k]?
theorem MKeep.trans {b : Nat} {W W' W'' : World} (h : MKeep b W W') (k : MKeep b W' W'') : MKeep b W W'' :=
  ⟨k.os.trans h.os, k.tape.trans h.tape, k.output.trans h.output, Nat.le_trans h.size k.size, fun i hi h1 => (k.block i (Nat.lt_of_lt_of_le hi h.size) h1).trans (h.block i hi h1)⟩
theorem MKeep.of_below {b B : Nat} {W W' : World} (h : Below B W W') (hB : W.heap.size ≤ B) : MKeep b W W' :=
  ⟨h.os, h.tape, h.output, h.size, fun k hk _ => h.block k (by omega)⟩
theorem MKeep.below {b B : Nat} {W W' : World} (h : MKeep b W W') (hB : B ≤ b) (hW : B ≤ W.heap.size) : Below B W W' :=
  ⟨h.os, h.tape, h.output, h.size, fun k hk => h.block k (by omega) (by omega)⟩
theorem MKeep.cell {b : Nat} {W W' : World} (h : MKeep b W W') {k i : Nat} {v : Value} (hc : W.cell? ⟨k, i, none⟩ = some v) (hk : k ≠ b) : W'.cell? ⟨k, i, none⟩ = some v :=
  (World.cell?_of_block (a := ⟨k, i, none⟩) (h.block k (World.block_lt_of_cell? W _ hc) hk)).trans hc
theorem WKeep.toM {sb b : Nat} {W W0 W' : World} (h : WKeep sb b W0 W') (hm : MKeep b W W0) (hs : W.heap.size ≤ sb) : MKeep b W W' :=
  ⟨h.os.trans hm.os, h.tape.trans hm.tape, h.output.trans hm.output, Nat.le_trans hm.size h.size, fun k hk h1 => (h.block k (Nat.lt_of_lt_of_le hk hm.size) (by omega) h1).trans (hm.block k hk h1)⟩
/-- What has flown. -/
structure Flown (len : Nat) (f0 f : Int → Int → Int → Int) (sum : Int) : Prop where
  nn : ∀ x y z, 0 ≤ f x y z
  pair : ∀ x y z, f x y z + f y x z = f0 x y z + f0 y x z
  bal : ∀ v : Int, outR len f0 v - outR len f v = (if v = 11 then sum else 0) - (if v = 12 then sum else 0)
theorem Flown.start (len : Nat) {f0 : Int → Int → Int → Int} (h : capOk f0) : Flown len f0 f0 0 := ⟨fun x y z => (h x y z).1, fun _ _ _ => rfl, fun v => by simp⟩
theorem Flown.cap {len : Nat} {f0 f : Int → Int → Int → Int} {sum : Int} (h : Flown len f0 f sum) (h0 : capOk f0) : capOk f := fun x y z => ⟨h.nn x y z, by rw [h.pair]; exact (h0 x y z).2⟩
theorem Flown.aug {len : Nat} {f0 f f' : Int → Int → Int → Int} {sum got : Int} {s : Int → Bool} (h : Flown len f0 f sum) (ha : Aug len s 11 got f f') : Flown len f0 f' (sum + got) :=
  ⟨ha.nn, fun x y z => by rw [ha.pair, h.pair], fun v => by
    have h1 := h.bal v
    have h2 := ha.bal v
    (repeat' split at h1) <;> (repeat' split at h2) <;> (repeat' split) <;> omega⟩
theorem Flown.le {len : Nat} {f0 f : Int → Int → Int → Int} {sum : Int} (h : Flown len f0 f sum) : sum ≤ outR len f0 11 := by
  have h1 := h.bal 11
  simp at h1
  have h2 : 0 ≤ outR len f 11 := sumR_nonneg fun u _ => sumR_nonneg fun j _ => h.nn _ _ _
  omega
/-- What flow hands back. -/
def FlowPost (b len : Nat) (f0 : Int → Int → Int → Int) (w : World) (e : Ending) (w' : World) : Prop :=
  ∃ (sum : Int) (f : Int → Int → Int → Int) (S : Int → Bool), e = .returned (.int .i64 sum) ∧ 0 ≤ sum ∧ ArcMap w' b f ∧ Flown len f0 f sum ∧ S (11 : Int) = true ∧ S 12 = false ∧ MKeep b w w' ∧
    (∀ u v j : Nat, u < 13 → v < 13 → j < len + 1 → S u = true → S v = false → f u v ((j : Int) - 1) = 0)
/-- A walk from first. -/
def FirstPost (b len : Nat) (f : Int → Int → Int → Int) (wr : World) (e : Ending) (w' : World) : Prop :=
  ∃ v : Int, e = .returned (.int .i64 v) ∧ MKeep b wr w' ∧
    ((v = 0 ∧ ArcMap w' b f ∧ ∃ S : Int → Bool, S 11 = true ∧ S 12 = false ∧ ∀ u v j : Nat, u < 13 → v < 13 → j < len + 1 → S u = true → S v = false → f u v ((j : Int) - 1) = 0) ∨
     (0 < v ∧ v ≤ 1073741824 ∧ ∃ f' s, ArcMap w' b f' ∧ Aug len s 11 v f f'))
def unseenCells : Array Value := #[.bool false, .bool false, .bool false, .bool false, .bool false, .bool false, .bool false, .bool false, .bool false, .bool false, .bool false, .bool false, .bool false]
theorem walk_first (g b len wv : Nat) (f : Int → Int → Int → Int) (wr : World) (hlen : len ≤ 100) (hcap : capOk f) (hsl : ∃ A cap, wr.cell? ⟨g, 0, none⟩ = some (.slice A len cap)) (hmp : wr.cell? ⟨g, 3, none⟩ = some (.map (some b)))
    (hm : ArcMap wr b f) (hbx : wr.cell? ⟨wv, 0, none⟩ = some (.pointer (some ⟨g, 0, none⟩))) :
    Calls Try.prog 118 #[.int .i64 11, .int .i64 1073741824, .pointer (some ⟨wr.heap.size, 0, none⟩), .pointer (some ⟨wv, 0, none⟩), .pointer (some ⟨wr.heap.size + 1, 0, none⟩)]
      ((wr.alloc (.cells unseenCells 140)).alloc (.cells #[.func (.func 118) #[] #[.pointer (some ⟨wr.heap.size, 0, none⟩), .pointer (some ⟨wv, 0, none⟩), .pointer (some ⟨wr.heap.size + 1, 0, none⟩)]] 146)) (FirstPost b len f wr) := by
  obtain ⟨A, cap, hA⟩ := hsl
  have hB : Below wr.heap.size wr ((wr.alloc (.cells unseenCells 140)).alloc (.cells #[.func (.func 118) #[] #[.pointer (some ⟨wr.heap.size, 0, none⟩), .pointer (some ⟨wv, 0, none⟩), .pointer (some ⟨wr.heap.size + 1, 0, none⟩)]] 146)) :=
    ((Below.refl _ _).alloc (Nat.le_refl _) _).alloc (by simp) _
  have hseen : SeenAt ((wr.alloc (.cells unseenCells 140)).alloc (.cells #[.func (.func 118) #[] #[.pointer (some ⟨wr.heap.size, 0, none⟩), .pointer (some ⟨wv, 0, none⟩), .pointer (some ⟨wr.heap.size + 1, 0, none⟩)]] 146)) wr.heap.size (fun _ => false) := by
    refine ⟨unseenCells, 140, (Below.heap_alloc _ _ _ (by simp)).trans (heap_alloc_new wr _), rfl, fun i hi => ?_⟩
    have : ∀ i : Fin 13, unseenCells[i.1]? = some (.bool false) := by intro i; match i with | ⟨0, _⟩ | ⟨1, _⟩ | ⟨2, _⟩ | ⟨3, _⟩ | ⟨4, _⟩ | ⟨5, _⟩ | ⟨6, _⟩ | ⟨7, _⟩ | ⟨8, _⟩ | ⟨9, _⟩ | ⟨10, _⟩ | ⟨11, _⟩ | ⟨12, _⟩ => rfl
    exact this ⟨i, hi⟩
  have hkv : Boxed ((wr.alloc (.cells unseenCells 140)).alloc (.cells #[.func (.func 118) #[] #[.pointer (some ⟨wr.heap.size, 0, none⟩), .pointer (some ⟨wv, 0, none⟩), .pointer (some ⟨wr.heap.size + 1, 0, none⟩)]] 146)) (wr.heap.size + 1) 146 (.func (.func 118) #[] #[.pointer (some ⟨wr.heap.size, 0, none⟩), .pointer (some ⟨wv, 0, none⟩), .pointer (some ⟨wr.heap.size + 1, 0, none⟩)]) := by
    have := Boxed.new (wr.alloc (.cells unseenCells 140)) 146 (.func (.func 118) #[] #[.pointer (some ⟨wr.heap.size, 0, none⟩), .pointer (some ⟨wv, 0, none⟩), .pointer (some ⟨wr.heap.size + 1, 0, none⟩)])
    simpa using this
  generalize (wr.alloc (.cells unseenCells 140)).alloc (.cells #[.func (.func 118) #[] #[.pointer (some ⟨wr.heap.size, 0, none⟩), .pointer (some ⟨wv, 0, none⟩), .pointer (some ⟨wr.heap.size + 1, 0, none⟩)]] 146) = X at *
  have hE : WEnv X wr.heap.size wv (wr.heap.size + 1) g b len (fun _ => false) f :=
    ⟨hseen, (hB.cell (p := ⟨wv, 0, none⟩) (World.block_lt_of_cell? wr _ hbx)).trans hbx, hkv.cell, ⟨A, cap, (hB.cell (p := ⟨g, 0, none⟩) (World.block_lt_of_cell? wr _ hA)).trans hA⟩, (hB.cell (p := ⟨g, 3, none⟩) (World.block_lt_of_cell? wr _ hmp)).trans hmp, hm.of_block (hB.block _ hm.lt)⟩
  have hk0 : MKeep b wr X := MKeep.of_below hB (Nat.le_refl _)
  have hw := walk_any wr.heap.size wv (wr.heap.size + 1) g b len hlen (unseen fun _ => false) 11 1073741824 (fun _ => false) f X (Nat.le_refl _) (by omega) rfl (by omega) (by omega) hcap hE
  refine Calls.mono hw ?_
  rintro e w' ⟨hk, ⟨rfl, hb1, s', h1, h2, h3, h4, h5⟩ | ⟨got, f', rfl, h1, h2, h3, h4⟩⟩
  · refine ⟨0, rfl, hk.toM hk0 (Nat.le_refl _), .inl ⟨rfl, hE.map.of_block hb1, s', h3, h4, fun u v j hu hv hj hsu hsv => ?_⟩⟩
    have hn := (hcap u v ((j : Int) - 1)).1
    rcases Int.lt_or_le 0 (f u v ((j : Int) - 1)) with hp | hp
    · have := h5 u v ((j : Int) - 1) (by omega) (by omega) hsu rfl (by omega) (by omega) (by omega) (by omega) hp
      rw [this] at hsv; cases hsv
    · omega
  · exact ⟨got, rfl, hk.toM hk0 (Nat.le_refl _), .inr ⟨h1, h2, f', _, h3, h4⟩⟩
def FlowRel (b len g wv : Nat) (f0 : Int → Int → Int → Int) (w : World) (t : Value) (wr : World) : Prop :=
  ∃ sum f, t = .int .i64 sum ∧ 0 ≤ sum ∧ ArcMap wr b f ∧ Flown len f0 f sum ∧ MKeep b w wr ∧ Boxed wr wv 136 (.pointer (some ⟨g, 0, none⟩))
set_option maxRecDepth 100000 in
set_option maxHeartbeats 4000000 in
theorem flow_any (g b len : Nat) (f0 : Int → Int → Int → Int) (w : World) (hlen : len ≤ 100) (hsl : ∃ A cap, w.cell? ⟨g, 0, none⟩ = some (.slice A len cap)) (hmp : w.cell? ⟨g, 3, none⟩ = some (.map (some b)))
    (hmap : ArcMap w b f0) (hcap : capOk f0) (hdue : outR len f0 11 ≤ 1000000) :
    Calls Try.prog 93 #[.pointer (some ⟨g, 0, none⟩)] w (FlowPost b len f0 w) := by
  have hgb : g ≠ b := by rintro rfl; have := cell_map_none hmap 3; rw [this] at hmp; cases hmp
  have hbl := hmap.lt
  have hgl := World.block_lt_of_cell? w _ hmp
  obtain ⟨A, cap, hA⟩ := hsl
  have HC := Lib.hid hcap
  have HM := Lib.hid hmap
  clear hmap hcap
  go_enter Try.func93, Try.ntmps93
  go_wp2_with fail
  go_loopw [2] (FlowRel b len g w.heap.size f0 w) (fun s _ => (outR len f0 11 - intOf s).toNat)
  case atStart =>
    exact ⟨0, f0, rfl, by omega, HM.out.of_block (Below.heap_alloc _ _ _ hbl), Flown.start len HC.out, MKeep.of_below ((Below.refl _ _).alloc (Nat.le_refl _) _) (Nat.le_refl _), Boxed.new w 136 _⟩
  case round =>
    obtain ⟨sum, f, rfl, hs0, hm, hfl, hk, hbx⟩ := hrel
    have hszr := hk.size
    have hle := hfl.le
    have HF := Lib.hid hfl
    have HMm := Lib.hid hm
    clear hm hfl
    have hwf := Lib.hid (walk_first g b len w.heap.size f wr hlen (HF.out.cap HC.out) ⟨A, cap, hk.cell hA hgb⟩ (hk.cell hmp hgb) HMm.out hbx.cell)
    go_wp2_with fail
    refine Calls.mono hwf.out ?_
    rintro e w1 ⟨v, rfl, hk1, ⟨rfl, hm1, S, hS1, hS2, hcl⟩ | ⟨hv0, hv1, f', s, hm1, hA1⟩⟩
    · have HCl := Lib.hid hcl
      clear hcl
      go_wp2_with fail
      go_ret
      exact ⟨sum, f, S, rfl, hs0, hm1, HF.out, hS1, hS2, hk.trans hk1, HCl.out⟩
    · have hfl2 := Lib.hid (HF.out.aug hA1)
      have hle2 := (HF.out.aug hA1).le
      have HA1 := Lib.hid hA1
      clear hA1
      have hvb : (v == 0) = false := by simp; omega
      go_wp2_with fail
      go_roundw
      case rel => exact ⟨sum + v, f', rfl, by omega, hm1, hfl2.out, hk.trans hk1, (hk1.block _ hbx.lt (by omega)).trans hbx⟩
      case measure => simp [intOf]; omega
end
end Go.Proofs.Ytkloaeaepjoijaa

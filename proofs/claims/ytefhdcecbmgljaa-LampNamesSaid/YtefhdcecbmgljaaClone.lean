/-
  Whether a number is in a list; a copy of a list.
-/
import Derived.Test.YtefhdcecbmgljaaAll
import Derived.Test.YtefhdcecbmgljaaRows3
set_option linter.all false
namespace Go.Proofs.Ytefhdcecbmgljaa
open Go.RowKit Go.WalkArith

/-- Where a number stands first; -1 if nowhere. -/
def idxI : List Int → Int → Int
  | [], _ => -1
  | y :: r, x => if y = x then 0 else if idxI r x = -1 then -1 else idxI r x + 1

theorem idxI_ge (xs : List Int) (x : Int) : -1 ≤ idxI xs x := by
  induction xs with
  | nil => simp [idxI]
  | cons y r ih => unfold idxI; split <;> (try split) <;> omega

theorem idxI_none {xs : List Int} {x : Int} (h : ∀ j (h : j < xs.length), xs[j] ≠ x) : idxI xs x = -1 := by
  induction xs with
  | nil => rfl
  | cons y r ih =>
    unfold idxI
    rw [if_neg (by have := h 0 (by simp); simpa using this), if_pos]
    exact ih fun j hj => by have := h (j + 1) (by simpa using hj); simpa using this

theorem idxI_at {xs : List Int} {x : Int} {k : Nat} (hk : k < xs.length) (he : xs[k] = x) (h : ∀ j (h : j < xs.length), j < k → xs[j] ≠ x) : idxI xs x = k := by
  induction xs generalizing k with
  | nil => simp at hk
  | cons y r ih =>
    unfold idxI
    cases k with
    | zero => rw [if_pos (by simpa using he)]; rfl
    | succ k =>
      rw [if_neg (by have := h 0 (by simp) (by omega); simpa using this)]
      have := ih (k := k) (by simpa using hk) (by simpa using he) (fun j hj hjk => by have := h (j + 1) (by simpa using hj) (by omega); simpa using this)
      rw [if_neg (by omega), this]
      omega

theorem idxI_mem (xs : List Int) (x : Int) : decide (0 ≤ idxI xs x) = xs.contains x := by
  induction xs with
  | nil => simp [idxI]
  | cons y r ih =>
    have hg := idxI_ge r x
    rw [List.contains_cons]
    unfold idxI
    by_cases e : y = x
    · subst e; simp
    · rw [if_neg e, show (x == y) = false by simpa using fun h => e h.symm, Bool.false_or, ← ih]
      split
      · rename_i h; rw [h]
      · rw [Bool.eq_iff_iff]; simp; omega

set_option maxHeartbeats 400000 in
theorem index_any (v : Value) (xs : List Int) (x : Int) (w : World) (hv : IntsAt w v xs) (hn : xs.length ≤ 1000000) :
    Calls Try.prog 102 #[v, .int .i64 x] w fun e w' => e = .returned (.int .i64 (idxI xs x)) ∧ w = w' := by
  obtain ⟨A, cap, rfl, hx⟩ := hv
  have HX := Lib.hid hx
  clear hx
  go_enter Try.func102, Try.ntmps102
  go_wp2
  go_loop [8] (fun i => ∃ k : Nat, k ≤ xs.length ∧ i = .int .i64 k ∧ ∀ j (h : j < xs.length), j < k → xs[j] ≠ x) (fun i => xs.length - (intOf i).toNat)
  case atStart => exact ⟨0, by omega, rfl, fun j _ h => by omega⟩
  case round =>
    obtain ⟨k, hk, rfl, hno⟩ := hrel
    have HN := Lib.hid hno
    clear hno
    by_cases hlt : k < xs.length
    · obtain ⟨b, o, rfl, hc⟩ := HX.out.resolve_left (fun h => by rw [h] at hlt; simp at hlt)
      have ck := hc k hlt
      clear hc
      have hlt' : decide ((k : Int) < (xs.length : Int)) = true := by simpa using hlt
      obtain ⟨y, hy⟩ : ∃ y, xs[k] = y := ⟨_, rfl⟩
      rw [hy] at ck
      have HY := Lib.hid hy
      clear hy
      by_cases he : x = y
      · subst he
        have hb : (x == x) = true := by simp
        have hfin : idxI xs x = k := idxI_at hlt HY.out HN.out
        have HF := Lib.hid hfin
        clear hfin
        go_wp2
        go_ret
        exact ⟨by rw [HF.out]; rfl, rfl⟩
      · have hb : (x == y) = false := by simpa using he
        go_wp2
        go_round
        case rel => exact ⟨k + 1, by omega, by go_num, fun j h hj => by
          by_cases e : j = k
          · subst e; rw [HY.out]; exact fun h => he h.symm
          · exact HN.out j h (by omega)⟩
        case measure => simp [intOf]; omega
    · have hlt' : decide ((k : Int) < (xs.length : Int)) = false := by simpa using hlt
      have hfin : idxI xs x = -1 := idxI_none fun j hj => HN.out j hj (by omega)
      have HF := Lib.hid hfin
      clear hfin
      go_wp2
      go_ret
      exact ⟨by rw [HF.out]; rfl, rfl⟩

theorem contains_any (v : Value) (xs : List Int) (x : Int) (w : World) (hv : IntsAt w v xs) (hn : xs.length ≤ 1000000) :
    Calls Try.prog 73 #[v, .int .i64 x] w fun e w' => e = .returned (.bool (xs.contains x)) ∧ w = w' := by
  rw [← idxI_mem]
  have HI := Lib.hid (index_any v xs x w hv hn)
  clear hv
  go_enter Try.func73, Try.ntmps73
  go_wp2_with (go_at_call 102; refine HI.out.mono ?_; rintro e w' ⟨rfl, rfl⟩)
  go_ret
  exact ⟨rfl, rfl⟩
theorem ints_cells {W : World} {b o cap : Nat} {xs : List Int} (h : IntsAt W (.slice (some ⟨b, o, none⟩) xs.length cap) xs) : ∀ j u, (xs.map (Value.int .i64))[j]? = some u → W.cell? ((⟨b, o, none⟩ : Addr).add j) = some u := by
  intro j u hu
  rw [List.getElem?_map] at hu
  cases e : xs[j]? with
  | none => rw [e] at hu; cases hu
  | some x =>
    rw [e] at hu
    obtain rfl : Value.int .i64 x = u := by simpa using hu
    obtain ⟨hj, rfl⟩ := List.getElem?_eq_some_iff.1 e
    obtain ⟨A, cap', he, hc⟩ := h
    cases he
    obtain ⟨b', o', he, hd⟩ := hc.resolve_left (fun h => by rw [h] at hj; simp at hj)
    cases he
    rw [Addr.add_mid]
    exact hd j hj
set_option maxRecDepth 100000 in
set_option maxHeartbeats 1000000 in
/-- A copy of a list of numbers. -/
theorem clone_any (v : Value) (xs : List Int) (w : World) (hv : IntsAt w v xs) (h0 : xs = [] → v = .slice none 0 0) (hn : xs.length ≤ 1000) :
    Calls Try.prog 75 #[v] w fun e w' => ∃ v', e = .returned v' ∧ w'.ownsRow w.heap.size 3 1 v' xs.length (xs.map (Value.int .i64)) ∧ Below w.heap.size w w' := by
  by_cases e : xs = []
  · subst e
    rw [h0 rfl]
    clear h0 hv
    have heq := fun W : World => Lib.run_eql_slice_nil (P := Try.prog) W 27 3 none 0 0 0 0 Try.underlying27
    go_enter Try.func75, Try.ntmps75
    go_wp2
    go_ret
    exact ⟨_, rfl, World.ownsRow_nil _ _ _ _, Below.refl _ _⟩
  · obtain ⟨A, cap, rfl, hc⟩ := hv
    obtain ⟨b, o, rfl, hd⟩ := hc.resolve_left e
    have hl : 0 < xs.length := List.length_pos_iff.2 e
    have hia : IntsAt w (.slice (some ⟨b, o, none⟩) xs.length cap) xs := ⟨_, _, rfl, .inr ⟨b, o, rfl, hd⟩⟩
    have hlb := World.block_lt_of_cell? w _ (hd 0 hl)
    have hcel := ints_cells (hia.keep ((Below.refl _ w).alloc (Nat.le_refl _) (.cells #[] 3)) (Nat.le_refl _))
    obtain ⟨i0, hi0', hz0', hz1', hz2'⟩ := info_parts Try.info3
    have hi0 := Lib.hid hi0'
    have hz0 := Lib.hid hz0'
    have hz1 := Lib.hid hz1'
    have hz2 := Lib.hid hz2'
    have HC := Lib.hid hcel
    have heq := fun W : World => Lib.run_eql_slice_nil (P := Try.prog) W 27 3 (some ⟨b, o, none⟩) xs.length cap 0 0 Try.underlying27
    clear h0 hc hd hia hcel hi0' hz0' hz1' hz2'
    go_enter Try.func75, Try.ntmps75
    go_wp2_with (at_builtin; refine wpList_append_own _ rfl _ _ 27 rfl w.heap.size 3 i0 (.int .i64 0) 1 8 Try.underlying27 hi0.out hz0.out hz1.out hz2.out rfl (by decide) _ 0 [] rfl (World.ownsRow_made (base := w.heap.size) (e := 3) (size := 1) w #[] 0 (Nat.le_refl _) (by decide) rfl) ⟨b, o, none⟩ xs.length cap (xs.map (Value.int .i64)) rfl (by simp) HC.out ?c2 ?c3 ?c4 ?c5 ?_)
    case c2 => simp [Value.oneCell']
    case c3 => unfold maxLen; omega
    case c4 => omega
    intro v2 w6 hown6 hgrow hnil6
    have hbe : Below w.heap.size w w6 := ((Below.refl _ w).alloc (Nat.le_refl _) (.cells #[] 3)).trans (below_of_grown hgrow (World.ownsRow_made (base := w.heap.size) (e := 3) (size := 1) w #[] 0 (Nat.le_refl _) (by decide) rfl) (Nat.le_refl _) (by simp))
    have HOWN := Lib.hid hown6
    have HBE := Lib.hid hbe
    clear hown6 hgrow hnil6 hbe
    go_wp2
    go_ret
    exact ⟨_, rfl, by simpa using HOWN.out, HBE.out⟩
end Go.Proofs.Ytefhdcecbmgljaa

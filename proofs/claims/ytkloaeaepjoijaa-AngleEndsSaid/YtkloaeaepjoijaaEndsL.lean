/-
  AngleEnds, plainly: a room that ends at an end of the bounds holds a truth; one that ends before holds none.
-/
import Derived.Test.YtkloaeaepjoijaaLawC
import Derived.Test.YtkloaeaepjoijaaLawB
set_option linter.all false
namespace Go.Proofs.Ytkloaeaepjoijaa

section
variable {l : List Ang} {T C : Int} {lo hi lo' hi' : Int → Int}
theorem ends_below (hok : NetOk l T C) {i : Nat} {x : Int} (hj : ∀ j : Nat, j < l.length → j ≠ i → lo' j = lo j ∧ hi' j = hi j) (hle : hi' i ≤ x) (h1 : pointB l T C lo hi i (x + 1) = true) (h0 : pointB l T C lo hi i x = false) : canB l T C lo' hi' = false := by
  cases e : canB l T C lo' hi' with
  | false => rfl
  | true =>
    have h2 : pointB l T C lo hi i x = true := by
      unfold pointB at h1 ⊢
      rw [canB_iff hok]
      intro m hm
      have a := (canB_iff hok).1 h1 m hm
      have b := (canB_iff hok).1 e m hm
      constructor
      · cases hc : (m (toL l i) && !m (frL l i)) with
        | false =>
          refine Int.le_trans (sumR_le fun j hjl => ?_) a.1
          by_cases ej : j = i
          · subst ej
            rw [hc]
            simp only [updG, if_true]
            split
            · omega
            · simp
          · have : (j : Int) ≠ (i : Int) := by omega
            simp only [updG, if_neg this]
            exact Int.le_refl _
        | true =>
          refine Int.le_trans (sumR_le fun j hjl => ?_) b.1
          by_cases ej : j = i
          · subst ej
            have hc' : (m (frL l j) && !m (toL l j)) = false := by
              rw [Bool.and_eq_true] at hc
              simp at hc
              simp [hc]
            rw [hc, hc']
            simp only [updG, if_true]
            simp
            omega
          · have : (j : Int) ≠ (i : Int) := by omega
            obtain ⟨g1, g2⟩ := hj j hjl ej
            simp only [updG, if_neg this, g1, g2]
            exact Int.le_refl _
      · cases hc : (m (frL l i) && !m (toL l i)) with
        | false =>
          refine Int.le_trans a.2 (sumR_le fun j hjl => ?_)
          by_cases ej : j = i
          · subst ej
            rw [hc]
            simp only [updG, if_true]
            simp
            split
            · omega
            · omega
          · have : (j : Int) ≠ (i : Int) := by omega
            simp only [updG, if_neg this]
            exact Int.le_refl _
        | true =>
          refine Int.le_trans b.2 (sumR_le fun j hjl => ?_)
          by_cases ej : j = i
          · subst ej
            rw [hc]
            simp only [updG, if_true]
            exact hle
          · have : (j : Int) ≠ (i : Int) := by omega
            obtain ⟨g1, g2⟩ := hj j hjl ej
            simp only [updG, if_neg this, g1, g2]
            exact Int.le_refl _
    rw [h0] at h2; cases h2
theorem ends_above (hok : NetOk l T C) {i : Nat} {x : Int} (hj : ∀ j : Nat, j < l.length → j ≠ i → lo' j = lo j ∧ hi' j = hi j) (hle : x ≤ lo' i) (h1 : pointB l T C lo hi i (x - 1) = true) (h0 : pointB l T C lo hi i x = false) : canB l T C lo' hi' = false := by
  cases e : canB l T C lo' hi' with
  | false => rfl
  | true =>
    have h2 : pointB l T C lo hi i x = true := by
      unfold pointB at h1 ⊢
      rw [canB_iff hok]
      intro m hm
      have a := (canB_iff hok).1 h1 m hm
      have b := (canB_iff hok).1 e m hm
      constructor
      · cases hc : (m (frL l i) && !m (toL l i)) with
        | false =>
          refine Int.le_trans (sumR_le fun j hjl => ?_) a.1
          by_cases ej : j = i
          · subst ej
            rw [hc]
            simp only [updG, if_true]
            simp
            split
            · omega
            · omega
          · have : (j : Int) ≠ (i : Int) := by omega
            simp only [updG, if_neg this]
            exact Int.le_refl _
        | true =>
          refine Int.le_trans (sumR_le fun j hjl => ?_) b.1
          by_cases ej : j = i
          · subst ej
            rw [hc]
            simp only [updG, if_true]
            exact hle
          · have : (j : Int) ≠ (i : Int) := by omega
            obtain ⟨g1, g2⟩ := hj j hjl ej
            simp only [updG, if_neg this, g1, g2]
            exact Int.le_refl _
      · cases hc : (m (toL l i) && !m (frL l i)) with
        | false =>
          refine Int.le_trans a.2 (sumR_le fun j hjl => ?_)
          by_cases ej : j = i
          · subst ej
            rw [hc]
            simp only [updG, if_true]
            split
            · omega
            · simp
          · have : (j : Int) ≠ (i : Int) := by omega
            simp only [updG, if_neg this]
            exact Int.le_refl _
        | true =>
          refine Int.le_trans b.2 (sumR_le fun j hjl => ?_)
          by_cases ej : j = i
          · subst ej
            have hc' : (m (frL l j) && !m (toL l j)) = false := by
              rw [Bool.and_eq_true] at hc
              simp at hc
              simp [hc]
            rw [hc, hc']
            simp only [updG, if_true]
            simp
            omega
          · have : (j : Int) ≠ (i : Int) := by omega
            obtain ⟨g1, g2⟩ := hj j hjl ej
            simp only [updG, if_neg this, g1, g2]
            exact Int.le_refl _
    rw [h0] at h2; cases h2
theorem ends_in (hok : NetOk l T C) {i : Nat} {x : Int} (hj : ∀ j : Nat, j < l.length → j ≠ i → lo' j = lo j ∧ hi' j = hi j) (h1 : lo' i ≤ x) (h2 : x ≤ hi' i) (h : pointB l T C lo hi i x = true) : canB l T C lo' hi' = true := by
  refine canB_mono hok (fun j hjl => ?_) (fun j hjl => ?_) h
  · by_cases ej : j = i
    · subst ej; simp only [updG, if_true]; exact h1
    · have : (j : Int) ≠ (i : Int) := by omega
      simp only [updG, if_neg this]
      exact Int.le_of_eq (hj j hjl ej).1
  · by_cases ej : j = i
    · subst ej; simp only [updG, if_true]; exact h2
    · have : (j : Int) ≠ (i : Int) := by omega
      simp only [updG, if_neg this]
      exact Int.le_of_eq (hj j hjl ej).2.symm
end

/-! A net in which another number was read of an angle. -/
section
variable {l : List Ang} {T C e : Int} {i : Nat} {r : Int}
theorem rd_len (h : i < l.length) : (l.set i (putF l[i] 2 r)).length = l.length := List.length_set
theorem rd_same (h : i < l.length) : SameNet l (l.set i (putF l[i] 2 r)) := by
  refine ⟨List.length_set, fun j h1 h2 => ?_, fun j h1 h2 => ?_⟩
  · rw [List.getElem_set]
    split
    · rename_i e; subst e; simp [putF]
    · rfl
  · rw [List.getElem_set]
    split
    · rename_i e; subst e; simp [putF]
    · rfl
theorem rd_ok (hok : NetOk l T C) (h : i < l.length) (h0 : 0 ≤ r) (h1 : r ≤ 40) : NetOk (l.set i (putF l[i] 2 r)) T C := by
  refine ⟨by rw [List.length_set]; exact hok.pos, by rw [List.length_set]; exact hok.len, hok.t0, hok.t1, hok.c0, hok.c1, fun a ha => ?_⟩
  rcases List.mem_or_eq_of_mem_set ha with ha | rfl
  · exact hok.ang a ha
  · have := hok.ang l[i] (List.getElem_mem h)
    simp only [putF]
    simp
    omega
theorem rd_room (h : i < l.length) : roomLo (l.set i (putF l[i] 2 r)) e [] i = max 0 (r - e * l[i].g) ∧ roomHi (l.set i (putF l[i] 2 r)) e [] i = min 40 (r + e * l[i].g) := by
  rw [roomLo_at (by rw [List.length_set]; exact h), roomHi_at (by rw [List.length_set]; exact h)]
  simp [putF]
theorem rd_others (h : i < l.length) (j : Nat) (hj : j < l.length) (hne : j ≠ i) : roomLo (l.set i (putF l[i] 2 r)) e [] j = roomLo l e [] j ∧ roomHi (l.set i (putF l[i] 2 r)) e [] j = roomHi l e [] j := by
  rw [roomLo_at (by rw [List.length_set]; exact hj), roomHi_at (by rw [List.length_set]; exact hj), roomLo_at hj, roomHi_at hj]
  simp [List.getElem_set, Ne.symm hne]
theorem rd_sure (hok : NetOk l T C) (he : 0 ≤ e ∧ e ≤ 40) (h : i < l.length) (h0 : 0 ≤ r) (h1 : r ≤ 40) : sureL (l.set i (putF l[i] 2 r)) T C e = if canB l T C (roomLo (l.set i (putF l[i] 2 r)) e []) (roomHi (l.set i (putF l[i] 2 r)) e []) then 0 else 9 := by
  have ha : askedL (l.set i (putF l[i] 2 r)) T C e = 0 := by
    unfold askedL
    rw [if_neg (by rw [faultL_zero.2 (rd_ok hok h h0 h1)]; simp), if_pos he]
  rw [sureL_ans ha]
  unfold canE
  rw [(rd_same h).canB]
variable {bl bh : Int → Int}
theorem ends_lo (hb : BoundsE l T C e l.length bl bh) (hok : NetOk l T C) (he : 0 ≤ e ∧ e ≤ 40) (h : i < l.length) (hr : r = bl i - e * l[i].g) (h0 : 0 ≤ r) (h1 : r ≤ 40) : sureL (l.set i (putF l[i] 2 r)) T C e = 0 := by
  have hl := hb.lo i h
  have hg : 0 ≤ e * l[i].g := Int.mul_nonneg he.1 (by have := hok.ang l[i] (List.getElem_mem h); omega)
  have hle := hl.le
  have hge := hl.ge
  rw [roomHi_at h] at hle
  rw [roomLo_at h] at hge
  simp at hle hge
  rw [rd_sure hok he h h0 h1, ends_in hok (fun j hj hne => rd_others h j hj hne) ?_ ?_ hl.yes]
  · rfl
  · rw [rd_room h |>.1]; omega
  · rw [rd_room h |>.2]; omega
theorem ends_hi (hb : BoundsE l T C e l.length bl bh) (hok : NetOk l T C) (he : 0 ≤ e ∧ e ≤ 40) (h : i < l.length) (hr : r = bh i + e * l[i].g) (h0 : 0 ≤ r) (h1 : r ≤ 40) : sureL (l.set i (putF l[i] 2 r)) T C e = 0 := by
  have hl := hb.hi i h
  have hg : 0 ≤ e * l[i].g := Int.mul_nonneg he.1 (by have := hok.ang l[i] (List.getElem_mem h); omega)
  have hle := hl.le
  have hge := hl.ge
  rw [roomHi_at h] at hle
  rw [roomLo_at h] at hge
  simp at hle hge
  rw [rd_sure hok he h h0 h1, ends_in hok (fun j hj hne => rd_others h j hj hne) ?_ ?_ hl.yes]
  · rfl
  · rw [rd_room h |>.1]; omega
  · rw [rd_room h |>.2]; omega
theorem ends_lo1 (hb : BoundsE l T C e l.length bl bh) (hok : NetOk l T C) (he : 0 ≤ e ∧ e ≤ 40) (h : i < l.length) (hr : r = bl i - 1 - e * l[i].g) (h0 : 0 ≤ r) (h1 : r ≤ 40) (hlow : roomLo l e [] i < bl i) : sureL (l.set i (putF l[i] 2 r)) T C e = 9 := by
  have hl := hb.lo i h
  rw [rd_sure hok he h h0 h1, ends_below hok (x := bl i - 1) (fun j hj hne => rd_others h j hj hne) ?_ ?_ (hl.no (bl i - 1) (by omega) (by omega))]
  · rfl
  · rw [rd_room h |>.2]; omega
  · rw [show bl i - 1 + 1 = bl i by omega]; exact hl.yes
theorem ends_hi1 (hb : BoundsE l T C e l.length bl bh) (hok : NetOk l T C) (he : 0 ≤ e ∧ e ≤ 40) (h : i < l.length) (hr : r = bh i + 1 + e * l[i].g) (h0 : 0 ≤ r) (h1 : r ≤ 40) (hhigh : bh i < roomHi l e [] i) : sureL (l.set i (putF l[i] 2 r)) T C e = 9 := by
  have hl := hb.hi i h
  rw [rd_sure hok he h h0 h1, ends_above hok (x := bh i + 1) (fun j hj hne => rd_others h j hj hne) ?_ ?_ (hl.no (bh i + 1) (by omega) (by omega))]
  · rfl
  · rw [rd_room h |>.1]; omega
  · rw [show bh i + 1 - 1 = bh i by omega]; exact hl.yes
end
end Go.Proofs.Ytkloaeaepjoijaa

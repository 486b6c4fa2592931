/-
  freed: a net in which some readings say nothing.
-/
import Derived.Test.YtkloaeaepjoijaaLawC
set_option linter.all false
namespace Go.Proofs.Ytkloaeaepjoijaa
open Go.RowKit Go.WalkArith

theorem copied_in {w0 X w1 : World} {l : List Ang} {v' : Value} (hpos : 0 < l.length) (hB : Below w0.heap.size w0 X)
    (hown : w1.ownsRow X.heap.size 71 4 v' l.length (flatA l)) (hgrow : (X.alloc (.cells #[] 71)).grownBy w1 (Value.ownBlock (.slice (some ⟨X.heap.size, 0, none⟩) 0 0))) :
    ∃ g cp, v' = .slice (some ⟨g, 0, none⟩) l.length cp ∧ X.heap.size ≤ g ∧ AngRow w1 g l ∧ (∀ j, j < X.heap.size → w1.heap[j]? = X.heap[j]?) ∧ Below w0.heap.size w0 w1 := by
  obtain ⟨g, cp, rfl, hg, hrow⟩ := AngRow.of_own hpos hown
  have hblk : ∀ j, j < X.heap.size → w1.heap[j]? = X.heap[j]? := fun j hj => by
    rw [hgrow.block j (by simp; omega) (by simp [Value.ownBlock]; omega), Below.heap_alloc _ _ _ hj]
  have hsz := hgrow.size
  simp at hsz
  exact ⟨g, cp, rfl, hg, hrow, hblk, hgrow.os.trans hB.os, hgrow.tape.trans hB.tape, hgrow.output.trans hB.output, by have := hB.size; omega, fun j hj => (hblk j (Nat.lt_of_lt_of_le hj hB.size)).trans (hB.block j hj)⟩
theorem made_in (X : World) : (X.alloc (.cells #[] 71)).ownsRow X.heap.size 71 4 (.slice (some ⟨X.heap.size, 0, none⟩) 0 0) 0 [] :=
  World.ownsRow_made (base := X.heap.size) (e := 71) (size := 4) X #[] 0 (Nat.le_refl _) (by decide) rfl
theorem flat_in {w X : World} {b o : Nat} {l : List Ang} (h : AngsAt w (some ⟨b, o, none⟩) l) (hB : Below w.heap.size w X) (y : Obj) : ∀ j u, (flatA l)[j]? = some u → (X.alloc y).cell? ((⟨b, o, none⟩ : Addr).add j) = some u := fun j u hu => by
  have h1 := angs_flat h j u hu
  have hB2 : Below w.heap.size w (X.alloc y) := hB.alloc hB.size _
  rw [hB2.cell (World.block_lt_of_cell? w _ h1)]; exact h1

def freeA (a : Ang) : Ang := ⟨a.t, a.c, 20, 3⟩
/-- The first so many are looked at. -/
def freeK (bits : Nat) (l : List Ang) (m : Nat) : List Ang := l.mapIdx fun i a => if i < m ∧ bits.testBit i = true then freeA a else a
def freeL (bits : Nat) (l : List Ang) : List Ang := freeK bits l l.length

theorem freeK_len (bits : Nat) (l : List Ang) (m : Nat) : (freeK bits l m).length = l.length := by simp [freeK]
theorem freeK_get {bits : Nat} {l : List Ang} {m i : Nat} (h : i < l.length) : (freeK bits l m)[i]'(by rw [freeK_len]; exact h) = if i < m ∧ bits.testBit i = true then freeA l[i] else l[i] := by
  simp [freeK]
theorem freeK_zero (bits : Nat) (l : List Ang) : freeK bits l 0 = l := by
  refine List.ext_getElem (freeK_len _ _ _) fun i h1 h2 => ?_
  rw [freeK_get h2, if_neg (by omega)]
theorem freeK_keep {bits : Nat} {l : List Ang} {m : Nat} (hm : m < l.length) (hb : bits.testBit m = false) : freeK bits l (m + 1) = freeK bits l m := by
  refine List.ext_getElem (by rw [freeK_len, freeK_len]) fun i h1 h2 => ?_
  rw [freeK_len] at h1
  rw [freeK_get h1, freeK_get h1]
  by_cases e : i = m
  · subst e; rw [hb]; simp
  · by_cases e2 : i < m
    · simp [e2, show i < m + 1 by omega]
    · simp [e2, show ¬ i < m + 1 by omega]
theorem freeK_step {bits : Nat} {l : List Ang} {m : Nat} (hm : m < l.length) (hb : bits.testBit m = true) : (freeK bits l m).set m (freeA l[m]) = freeK bits l (m + 1) := by
  refine List.ext_getElem (by rw [List.length_set, freeK_len, freeK_len]) fun i h1 h2 => ?_
  rw [freeK_len] at h2
  by_cases e : m = i
  · subst e
    rw [List.getElem_set_self, freeK_get h2, if_pos ⟨by omega, hb⟩]
  · rw [List.getElem_set_ne e, freeK_get h2, freeK_get h2]
    by_cases e2 : i < m
    · simp [e2, show i < m + 1 by omega]
    · simp [e2, show ¬ i < m + 1 by omega]

def FRl (bits : Nat) (l : List Ang) (T C : Int) (g : Nat) (Bi Bo : Nat) (net onet : Obj) (w : World) (i : Value) (wr : World) : Prop :=
  ∃ m : Nat, m ≤ l.length ∧ i = .int .i64 m ∧ AngRow wr g (freeK bits l m) ∧ wr.heap[Bi]? = some net ∧ wr.heap[Bo]? = some onet ∧ Below w.heap.size w wr

set_option maxRecDepth 100000 in
set_option maxHeartbeats 1000000 in
theorem freed_any (b o cap : Nat) (T C : Int) (l : List Ang) (bits : Nat) (w : World) (hpos : 0 < l.length) (hn12 : l.length ≤ 12) (hA : AngsAt w (some ⟨b, o, none⟩) l) :
    Calls Try.prog 61 #[.agg #[.slice (some ⟨b, o, none⟩) l.length cap, .int .i64 T, .int .i64 C], .int .i64 bits] w fun e w' => ∃ g cp, e = .returned (.agg #[.slice (some ⟨g, 0, none⟩) l.length cp, .int .i64 T, .int .i64 C]) ∧ AngRow w' g (freeL bits l) ∧ Below w.heap.size w w' := by
  obtain ⟨i0, hi0, hz0, hz1, hz2⟩ := info_parts Try.info71
  have hB : Below w.heap.size w ((w.alloc (.cells #[.slice (some ⟨b, o, none⟩) l.length cap, .int .i64 T, .int .i64 C] 24)).alloc (.cells #[.slice none 0 0, .int .i64 0, .int .i64 0] 24)) := ((Below.refl _ _).alloc (Nat.le_refl _) _).alloc (by simp) _
  have n0 : ((w.alloc (.cells #[.slice (some ⟨b, o, none⟩) l.length cap, .int .i64 T, .int .i64 C] 24)).alloc (.cells #[.slice none 0 0, .int .i64 0, .int .i64 0] 24)).heap[w.heap.size]? = some (.cells #[.slice (some ⟨b, o, none⟩) l.length cap, .int .i64 T, .int .i64 C] 24 (0, 0)) := (Below.heap_alloc _ _ _ (by simp)).trans (heap_new_at _ _ _ rfl)
  have n1 : ((w.alloc (.cells #[.slice (some ⟨b, o, none⟩) l.length cap, .int .i64 T, .int .i64 C] 24)).alloc (.cells #[.slice none 0 0, .int .i64 0, .int .i64 0] 24)).heap[w.heap.size + 1]? = some (.cells #[.slice none 0 0, .int .i64 0, .int .i64 0] 24 (0, 0)) := heap_new_at _ _ _ (by simp)
  have hsz : ((w.alloc (.cells #[.slice (some ⟨b, o, none⟩) l.length cap, .int .i64 T, .int .i64 C] 24)).alloc (.cells #[.slice none 0 0, .int .i64 0, .int .i64 0] 24)).heap.size = w.heap.size + 1 + 1 := by simp
  have hmd := made_in ((w.alloc (.cells #[.slice (some ⟨b, o, none⟩) l.length cap, .int .i64 T, .int .i64 C] 24)).alloc (.cells #[.slice none 0 0, .int .i64 0, .int .i64 0] 24))
  rw [hsz] at hmd
  have hfl := flat_in hA hB (.cells #[] 71)
  have HMD := Lib.hid hmd
  have HFL := Lib.hid hfl
  have HB := Lib.hid hB
  have N0 := Lib.hid n0
  have N1 := Lib.hid n1
  have HSZ := Lib.hid hsz
  clear hB n0 n1 hsz hA hmd hfl
  go_enter Try.func61, Try.ntmps61
  go_wp2_with (at_builtin; refine wpList_append_own _ rfl _ _ 22 rfl (w.heap.size + 1 + 1) 71 i0 (.agg #[.int .i64 0, .int .i64 0, .int .i64 0, .int .i64 0]) 4 32 Try.underlying22 hi0 hz0 hz1 hz2 rfl (by decide) _ 0 [] rfl HMD.out ⟨b, o, none⟩ l.length cap (flatA l) rfl (flatA_length _) HFL.out (flatA_one _) ?c3 ?c4 ?c5 ?_)
  case c3 => unfold maxLen; omega
  case c4 => omega
  case c5 => simp
  intro v' w1 hown1 hgrow _
  obtain ⟨g, cp, rfl, hg, hrow, hblk, hB1⟩ := copied_in (w0 := w) (X := ((w.alloc (.cells #[.slice (some ⟨b, o, none⟩) l.length cap, .int .i64 T, .int .i64 C] 24)).alloc (.cells #[.slice none 0 0, .int .i64 0, .int .i64 0] 24))) hpos HB.out (by rw [HSZ.out]; exact hown1) (by rw [HSZ.out]; exact hgrow)
  rw [HSZ.out] at hg hblk
  have m0 := (hblk w.heap.size (by omega)).trans N0.out
  have m1 := (hblk (w.heap.size + 1) (by omega)).trans N1.out
  clear hblk hown1 hgrow HMD HFL HB N0 N1 HSZ
  obtain ⟨Bi, hBi⟩ : ∃ Bi, w.heap.size = Bi := ⟨_, rfl⟩
  have o1 : w.heap.size ≤ Bi := by omega
  have o3 : Bi + 1 < g := by omega
  rw [hBi] at m0 m1
  simp only [hBi]
  have z0 : w1.frozen? ⟨Bi, 0, none⟩ = false := by simp [World.frozen?, m0]
  have z1 : w1.cell? ⟨Bi, 0, none⟩ = some (.slice (some ⟨b, o, none⟩) l.length cap) := by simp [World.cell?, m0]
  have hm0 := set_one m0 (.slice (some ⟨g, 0, none⟩) l.length cp)
  have hm1 : (w1.setCell ⟨Bi, 0, none⟩ (.slice (some ⟨g, 0, none⟩) l.length cp)).heap[(Bi + 1)]? = _ := (Below.heap_setCell w1 ⟨Bi, 0, none⟩ _ _ (by show (Bi + 1) ≠ Bi; omega)).trans m1
  have hr1 : AngRow (w1.setCell ⟨Bi, 0, none⟩ (.slice (some ⟨g, 0, none⟩) l.length cp)) g (freeK bits l 0) := by
    rw [freeK_zero]; exact hrow.of_block (Below.heap_setCell w1 ⟨Bi, 0, none⟩ _ _ (by show g ≠ Bi; omega))
  have hb1 : Below w.heap.size w (w1.setCell ⟨Bi, 0, none⟩ (.slice (some ⟨g, 0, none⟩) l.length cp)) := hB1.setCell (by simp; omega) _
  have HM0 := Lib.hid hm0
  have HM1 := Lib.hid hm1
  have HR1 := Lib.hid hr1
  have HB1 := Lib.hid hb1
  clear hm0 hm1 hr1 hb1 hrow hB1 m0 m1 hBi
  go_wp2_with fail
  clear z0 z1
  go_loopw [5] (FRl bits l T C g Bi (Bi + 1) (.cells #[.slice (some ⟨g, 0, none⟩) l.length cp, .int .i64 T, .int .i64 C] 24 (0, 0)) (.cells #[.slice none 0 0, .int .i64 0, .int .i64 0] 24 (0, 0)) w) (fun i _ => l.length - (intOf i).toNat)
  case atStart => exact ⟨0, by omega, rfl, HR1.out, HM0.out, HM1.out, HB1.out⟩
  case round =>
    clear HR1 HM0 HM1 HB1
    obtain ⟨m, hm, rfl, hrow, hI, hO, hBe⟩ := hrel
    have x0 : wr.cell? ⟨Bi, 0, none⟩ = some (.slice (some ⟨g, 0, none⟩) l.length cp) := by simp [World.cell?, hI]
    have HI := Lib.hid hI
    have HO := Lib.hid hO
    have HBe := Lib.hid hBe
    have HROW := Lib.hid hrow
    clear hI hO hBe hrow
    by_cases hlt : m < l.length
    · have hlt' : decide ((m : Int) < (l.length : Int)) = true := by simpa using hlt
      have i1 : (0 : Int) ≤ (m : Int) := by omega
      have i2 : (m : Int) < (l.length : Int) := by omega
      have hbit := bit_at bits m
      cases htb : bits.testBit m with
      | false =>
        rw [htb] at hbit
        have hk := freeK_keep hlt htb
        have HK := Lib.hid hk
        clear hk htb
        go_wp2_with fail
        go_roundw
        case rel => exact ⟨m + 1, by omega, by go_num, by rw [HK.out]; exact HROW.out, HI.out, HO.out, HBe.out⟩
        case measure => simp [intOf]; omega
      | true =>
        rw [htb] at hbit
        have hk := freeK_step hlt htb
        have hml : m < (freeK bits l m).length := by rw [freeK_len]; exact hlt
        have hgm : (freeK bits l m)[m]'hml = l[m] := by rw [freeK_get hlt, if_neg (by omega)]
        have hcl := HROW.out.cells hml
        rw [hgm] at hcl
        have HK := Lib.hid hk
        have HGM := Lib.hid hgm
        obtain ⟨a, ha⟩ : ∃ a, l[m] = a := ⟨_, rfl⟩
        rw [ha] at hcl
        obtain ⟨_, _, c2, c3⟩ := hcl
        have f2 := HROW.out.frozen (m * 4 + 2)
        have f3 := HROW.out.frozen (m * 4 + 3)
        have HA2 := Lib.hid ha
        clear hk htb hgm ha
        go_wp2_with fail
        go_region
        have hr2 := (HROW.out.put hml (f := 2) (by omega) 20).put (i := m) (by rw [List.length_set]; exact hml) (f := 3) (by omega) 3
        rw [List.getElem_set_self, List.set_set, HGM.out, HA2.out] at hr2
        have hfa : putF (putF a 2 20) 3 3 = freeA a := by simp [putF, freeA]
        rw [hfa, ← HA2.out, HK.out] at hr2
        have hI2 : ((wr.setCell ⟨g, m * 4 + 2, none⟩ (.int .i64 20)).setCell ⟨g, m * 4 + 3, none⟩ (.int .i64 3)).heap[Bi]? = _ := ((Below.heap_setCell _ ⟨g, m * 4 + 3, none⟩ _ _ (by show Bi ≠ g; omega)).trans (Below.heap_setCell wr ⟨g, m * 4 + 2, none⟩ (.int .i64 20) _ (by show Bi ≠ g; omega))).trans HI.out
        have hO2 : ((wr.setCell ⟨g, m * 4 + 2, none⟩ (.int .i64 20)).setCell ⟨g, m * 4 + 3, none⟩ (.int .i64 3)).heap[Bi + 1]? = _ := ((Below.heap_setCell _ ⟨g, m * 4 + 3, none⟩ _ _ (by show Bi + 1 ≠ g; omega)).trans (Below.heap_setCell wr ⟨g, m * 4 + 2, none⟩ (.int .i64 20) _ (by show Bi + 1 ≠ g; omega))).trans HO.out
        have hB2 : Below w.heap.size w ((wr.setCell ⟨g, m * 4 + 2, none⟩ (.int .i64 20)).setCell ⟨g, m * 4 + 3, none⟩ (.int .i64 3)) := (HBe.out.setCell (by simp; omega) _).setCell (by simp; omega) _
        have HR2 := Lib.hid hr2
        have HI2 := Lib.hid hI2
        have HO2 := Lib.hid hO2
        have HB2 := Lib.hid hB2
        clear hr2 hI2 hO2 hB2 HROW HI HO HBe x0 c2 c3 f2 f3
        go_wp2_with fail
        go_roundw
        case rel => exact ⟨m + 1, by omega, by go_num, HR2.out.of_block rfl, HI2.out, HO2.out, HB2.out.drew⟩
        case measure => simp [intOf]; omega
    · have hlt' : decide ((m : Int) < (l.length : Int)) = false := by simpa using hlt
      obtain rfl : m = l.length := by omega
      have x1 : wr.cell? ⟨Bi, 1, none⟩ = some (.int .i64 T) := by simp [World.cell?, HI.out]
      have x2 : wr.cell? ⟨Bi, 2, none⟩ = some (.int .i64 C) := by simp [World.cell?, HI.out]
      have y0 : wr.cell? ⟨Bi + 1, 0, none⟩ = some (.slice none 0 0) := by simp [World.cell?, HO.out]
      have y1 : wr.cell? ⟨Bi + 1, 1, none⟩ = some (.int .i64 0) := by simp [World.cell?, HO.out]
      have y2 : wr.cell? ⟨Bi + 1, 2, none⟩ = some (.int .i64 0) := by simp [World.cell?, HO.out]
      have z0 : wr.frozen? ⟨Bi + 1, 0, none⟩ = false := by simp [World.frozen?, HO.out]
      have z1 : wr.frozen? ⟨Bi + 1, 1, none⟩ = false := by simp [World.frozen?, HO.out]
      have z2 : wr.frozen? ⟨Bi + 1, 2, none⟩ = false := by simp [World.frozen?, HO.out]
      go_wp2_with fail
      have hW := set_three HO.out (.slice (some ⟨g, 0, none⟩) l.length cp) (.int .i64 T) (.int .i64 C)
      have hR : AngRow (((wr.setCell ⟨Bi + 1, 0, none⟩ (.slice (some ⟨g, 0, none⟩) l.length cp)).setCell ⟨Bi + 1, 1, none⟩ (.int .i64 T)).setCell ⟨Bi + 1, 2, none⟩ (.int .i64 C)) g (freeL bits l) := by
        refine HROW.out.of_block ?_
        exact (Below.heap_setCell _ ⟨Bi + 1, 2, none⟩ _ _ (by show g ≠ Bi + 1; omega)).trans ((Below.heap_setCell _ ⟨Bi + 1, 1, none⟩ _ _ (by show g ≠ Bi + 1; omega)).trans (Below.heap_setCell _ ⟨Bi + 1, 0, none⟩ _ _ (by show g ≠ Bi + 1; omega)))
      have hB9 : Below w.heap.size w (((wr.setCell ⟨Bi + 1, 0, none⟩ (.slice (some ⟨g, 0, none⟩) l.length cp)).setCell ⟨Bi + 1, 1, none⟩ (.int .i64 T)).setCell ⟨Bi + 1, 2, none⟩ (.int .i64 C)) := ((HBe.out.setCell (by simp; omega) _).setCell (by simp; omega) _).setCell (by simp; omega) _
      exact bodyPost_ret (v := .agg #[.slice (some ⟨g, 0, none⟩) l.length cp, .int .i64 T, .int .i64 C]) (by simp [results, Try.results61, go_sem, World.cell?, hW]) rfl ⟨g, cp, rfl, hR, hB9⟩

section
variable {l : List Ang} {T C : Int} {bits : Nat}
theorem freeL_len : (freeL bits l).length = l.length := freeK_len _ _ _
theorem freeL_at {i : Nat} (h : i < l.length) : (freeL bits l)[i]'(by rw [freeL_len]; exact h) = if bits.testBit i = true then freeA l[i] else l[i] := by
  unfold freeL
  rw [freeK_get h]
  simp [h]
theorem freeL_same : SameNet l (freeL bits l) := by
  refine ⟨freeL_len, fun i h h' => ?_, fun i h h' => ?_⟩
  · rw [freeL_at h]; split <;> rfl
  · rw [freeL_at h]; split <;> rfl
theorem freeL_ok (hok : NetOk l T C) : NetOk (freeL bits l) T C := by
  refine ⟨by rw [freeL_len]; exact hok.pos, by rw [freeL_len]; exact hok.len, hok.t0, hok.t1, hok.c0, hok.c1, fun a ha => ?_⟩
  obtain ⟨j, hj, rfl⟩ := List.mem_iff_getElem.1 ha
  rw [freeL_len] at hj
  have hx := hok.ang l[j] (List.getElem_mem hj)
  rw [freeL_at hj]
  split
  · simp only [freeA]; omega
  · exact hx
/-- With an error of 7 or more: what is freed has all numbers. -/
theorem freeL_can (hok : NetOk l T C) {e : Int} (he : 7 ≤ e) : canE (freeL bits l) T C e [] = canE l T C e (bitsL bits) := by
  have hn := hok.len
  unfold canE
  rw [freeL_same.canB]
  have hr : ∀ i : Nat, i < l.length → roomLo (freeL bits l) e [] i = roomLo l e (bitsL bits) i ∧ roomHi (freeL bits l) e [] i = roomHi l e (bitsL bits) i := fun i hi => by
    have hi' : i < (freeL bits l).length := by rw [freeL_len]; exact hi
    rw [roomLo_at hi, roomLo_at hi', roomHi_at hi, roomHi_at hi', bitsL_has (by omega), freeL_at hi]
    simp only [List.contains_nil, Bool.false_eq_true, if_false]
    cases bits.testBit i with
    | false => exact ⟨rfl, rfl⟩
    | true =>
      simp only [if_true, freeA]
      omega
  exact canB_congr (fun i hi => (hr i hi).1) (fun i hi => (hr i hi).2)
end
end Go.Proofs.Ytkloaeaepjoijaa

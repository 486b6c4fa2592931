/-
  Package flash: rows of 41 numbers in memory; the first row.
-/
import Derived.Test.YtkloaeaepjoijaaT04
import Derived.Laws.Rows
import Derived.Laws.Tables
set_option linter.all false
namespace Go.Proofs.Ytkloaeaepjoijaa
open Go.RowKit Go.WalkArith
/-- A row of 41 numbers. -/
def RowV (cs : Array Value) (f : Nat → Int) : Prop := cs.size = 41 ∧ ∀ i, i < 41 → cs[i]? = some (.int .i64 (f i))
def setF (f : Nat → Int) (k : Nat) (v : Int) : Nat → Int := fun i => if i = k then v else f i
theorem Try.info164 : (Try.prog.info? 164).map (·.size) = some 41 := by kernel_rfl
theorem zeros_row : RowV #[.int .i64 0, .int .i64 0, .int .i64 0, .int .i64 0, .int .i64 0, .int .i64 0, .int .i64 0, .int .i64 0, .int .i64 0, .int .i64 0, .int .i64 0, .int .i64 0, .int .i64 0, .int .i64 0, .int .i64 0, .int .i64 0, .int .i64 0, .int .i64 0, .int .i64 0, .int .i64 0, .int .i64 0, .int .i64 0, .int .i64 0, .int .i64 0, .int .i64 0, .int .i64 0, .int .i64 0, .int .i64 0, .int .i64 0, .int .i64 0, .int .i64 0, .int .i64 0, .int .i64 0, .int .i64 0, .int .i64 0, .int .i64 0, .int .i64 0, .int .i64 0, .int .i64 0, .int .i64 0, .int .i64 0] (fun _ => 0) := by
  refine ⟨rfl, fun i hi => ?_⟩
  have h : ∀ i : Fin 41, (#[.int .i64 0, .int .i64 0, .int .i64 0, .int .i64 0, .int .i64 0, .int .i64 0, .int .i64 0, .int .i64 0, .int .i64 0, .int .i64 0, .int .i64 0, .int .i64 0, .int .i64 0, .int .i64 0, .int .i64 0, .int .i64 0, .int .i64 0, .int .i64 0, .int .i64 0, .int .i64 0, .int .i64 0, .int .i64 0, .int .i64 0, .int .i64 0, .int .i64 0, .int .i64 0, .int .i64 0, .int .i64 0, .int .i64 0, .int .i64 0, .int .i64 0, .int .i64 0, .int .i64 0, .int .i64 0, .int .i64 0, .int .i64 0, .int .i64 0, .int .i64 0, .int .i64 0, .int .i64 0, .int .i64 0] : Array Value)[i.val]? = some (.int .i64 0) := by
    intro i
    repeat' (refine Fin.cases ?_ (fun i => ?_) i; rfl)
    exact i.elim0
  exact h ⟨i, hi⟩
theorem RowV.info {cs : Array Value} {f : Nat → Int} (h : RowV cs f) : (Try.prog.info? 164).map (·.size) = some cs.size := by rw [h.1]; exact Try.info164
theorem RowV.one {cs : Array Value} {f : Nat → Int} (h : RowV cs f) : cs.all (·.oneCell') = true := by
  rw [Array.all_eq_true_iff_forall_mem]
  intro v hv
  obtain ⟨i, hi, rfl⟩ := Array.mem_iff_getElem.1 hv
  have := h.2 i (by rw [← h.1]; exact hi)
  rw [Array.getElem?_eq_getElem hi] at this
  injection this with this
  rw [this]; rfl
theorem RowV.set {cs : Array Value} {f : Nat → Int} (h : RowV cs f) {k : Nat} (hk : k < 41) (v : Int) : RowV (cs.setIfInBounds k (.int .i64 v)) (setF f k v) := by
  refine ⟨by simp [h.1], fun i hi => ?_⟩
  rw [Array.getElem?_setIfInBounds]
  unfold setF
  by_cases e : k = i
  · subst e; simp [h.1, hk]
  · rw [if_neg e, if_neg (fun h => e h.symm), h.2 i hi]
theorem RowV.congr {cs : Array Value} {f g : Nat → Int} (h : RowV cs f) (hg : ∀ i, i < 41 → g i = f i) : RowV cs g := ⟨h.1, fun i hi => by rw [h.2 i hi, hg i hi]⟩
/-- Block B is a row. -/
def RowN (W : World) (B : Nat) (f : Nat → Int) : Prop := ∃ cs, W.heap[B]? = some (.cells cs 164 (0, 0)) ∧ RowV cs f
section
variable {W : World} {B : Nat} {f : Nat → Int}
theorem RowN.cell (h : RowN W B f) {i : Nat} (hi : i < 41) : W.cell? ⟨B, i, none⟩ = some (.int .i64 (f i)) := by
  obtain ⟨cs, hb, hc⟩ := h
  simp [World.cell?, hb, hc.2 i hi]
theorem RowN.frozen (h : RowN W B f) (i : Nat) : W.frozen? ⟨B, i, none⟩ = false := by
  obtain ⟨cs, hb, hc⟩ := h
  simp [World.frozen?, hb]
theorem RowN.lt (h : RowN W B f) : B < W.heap.size := by
  obtain ⟨cs, hb, _⟩ := h
  exact (Array.getElem?_eq_some_iff.1 hb).1
theorem RowN.of_block {W' : World} (h : RowN W B f) (hb : W'.heap[B]? = W.heap[B]?) : RowN W' B f := by
  obtain ⟨cs, h1, h2⟩ := h
  exact ⟨cs, hb.trans h1, h2⟩
theorem RowN.keep {W' : World} (h : RowN W B f) {N : Nat} (hb : Below N W W') (hB : W.heap.size ≤ N) : RowN W' B f := h.of_block (hb.block _ (Nat.lt_of_lt_of_le h.lt hB))
theorem RowN.set (h : RowN W B f) {v : Nat} (hv : v < 41) (x : Int) : RowN (W.setCell ⟨B, v, none⟩ (.int .i64 x)) B (setF f v x) := by
  obtain ⟨cs, hb, hc⟩ := h
  exact ⟨cs.setIfInBounds v (.int .i64 x), by simp [World.setCell, Array.getElem?_modify, hb], hc.set hv x⟩
theorem RowN.other (h : RowN W B f) {B2 : Nat} (hne : B ≠ B2) (o : Nat) (x : Value) : RowN (W.setCell ⟨B2, o, none⟩ x) B f := h.of_block (Below.heap_setCell _ _ _ _ hne)
theorem RowN.congr {g : Nat → Int} (h : RowN W B f) (hg : ∀ i, i < 41 → g i = f i) : RowN W B g := by
  obtain ⟨cs, hb, hc⟩ := h
  exact ⟨cs, hb, hc.congr hg⟩
end
theorem rangeAt_block {W : World} {B : Nat} {cs : Array Value} {t : TypeId} {fr : Nat × Nat} (h : W.heap[B]? = some (.cells cs t fr)) : W.rangeAt B 0 cs.toList := by
  intro j v hv
  have h1 : cs[j]? = some v := by simpa using hv
  simp [World.cell?, h, h1]
theorem rangeAt_of {W W' : World} {B : Nat} {cs : List Value} (h : W.rangeAt B 0 cs) (hB : W'.heap[B]? = W.heap[B]?) : W'.rangeAt B 0 cs := fun j v hv => (World.cell?_of_block (a := ⟨B, 0 + j, none⟩) hB).trans (h j v hv)
theorem heap_setRow (W : World) {B k : Nat} (gs : Array Value) (h : k ≠ B) : (W.setRow B gs).heap[k]? = W.heap[k]? := by unfold World.setRow; simp [Array.getElem?_modify, h.symm]
theorem heap_setRow_same {W : World} {B : Nat} {gs cs : Array Value} {t : TypeId} (h : W.heap[B]? = some (.cells cs t (0, 0))) : (W.setRow B gs).heap[B]? = some (.cells gs t (0, 0)) := by unfold World.setRow; simp [Array.getElem?_modify, h]
theorem min2_any (B : Nat) (a c : Int) (w : World) (h : w.heap[B]? = some (.cells #[.int .i64 a, .int .i64 c] 3 (0, 0))) :
    Calls Try.prog 132 #[.slice (some ⟨B, 0, none⟩) 2 2] w fun e w' => e = .returned (.int .i64 (min a c)) ∧ w = w' := by
  have h0 : w.cell? ⟨B, 0, none⟩ = some (.int .i64 a) := by simp [World.cell?, h]
  have h1 : w.cell? ⟨B, 1, none⟩ = some (.int .i64 c) := by simp [World.cell?, h]
  clear h
  go_enter Try.func132, Try.ntmps132
  go_wp2_with (go_at_call 121; refine (min_two _ _ _ _ h0 h1).mono ?_; rintro e w' ⟨rfl, rfl⟩)
  go_ret
  exact ⟨rfl, rfl⟩
theorem rdAt_elem {s : ByteArray} {k : Nat} (h : k < s.size) : rdAt (nl s) k = (s[k]).toNat := by
  unfold rdAt
  rw [List.getD_eq_getElem?_getD, List.getElem?_eq_getElem (nl_get h), nl_elem h]; rfl
def TirAt (W : World) (B : Nat) (A : Option Addr) (n cap : Nat) (rd : ByteArray) (er : Int) : Prop := W.heap[B]? = some (.cells #[.slice A n cap, .string rd, .int .i64 er] 134 (0, 0))
def BgRel (w : World) (Bt Bo : Nat) (A : Option Addr) (n cap : Nat) (rd : ByteArray) (er : Int) (i : Value) (wr : World) : Prop :=
  ∃ (k : Nat) (f : Nat → Int), k ≤ 40 ∧ i = .int .i64 ((k : Int) + 1) ∧ RowN wr Bo f ∧ (∀ j, j < k + 1 → f j = begR (nl rd) j) ∧ TirAt wr Bt A n cap rd er ∧ Below w.heap.size w wr
def RowPost (f : Nat → Int) (w : World) (e : Ending) (w' : World) : Prop := ∃ cs, e = .returned (.agg cs) ∧ RowV cs f ∧ Below w.heap.size w w'
set_option maxRecDepth 100000 in
set_option maxHeartbeats 2000000 in
theorem begun_any (rd : ByteArray) (A : Option Addr) (n cap : Nat) (er : Int) (w : World) (hl : rd.size ≤ 40) :
    Calls Try.prog 116 #[.agg #[.slice A n cap, .string rd, .int .i64 er]] w (RowPost (begR (nl rd)) w) := by
  have hb0 : Below w.heap.size w ((w.alloc (.cells #[.slice A n cap, .string rd, .int .i64 er] 134)).alloc (.cells #[.int .i64 0, .int .i64 0, .int .i64 0, .int .i64 0, .int .i64 0, .int .i64 0, .int .i64 0, .int .i64 0, .int .i64 0, .int .i64 0, .int .i64 0, .int .i64 0, .int .i64 0, .int .i64 0, .int .i64 0, .int .i64 0, .int .i64 0, .int .i64 0, .int .i64 0, .int .i64 0, .int .i64 0, .int .i64 0, .int .i64 0, .int .i64 0, .int .i64 0, .int .i64 0, .int .i64 0, .int .i64 0, .int .i64 0, .int .i64 0, .int .i64 0, .int .i64 0, .int .i64 0, .int .i64 0, .int .i64 0, .int .i64 0, .int .i64 0, .int .i64 0, .int .i64 0, .int .i64 0, .int .i64 0] 164)) := ((Below.refl _ _).alloc (Nat.le_refl _) _).alloc (by simp) _
  have hn0 : ((w.alloc (.cells #[.slice A n cap, .string rd, .int .i64 er] 134)).alloc (.cells #[.int .i64 0, .int .i64 0, .int .i64 0, .int .i64 0, .int .i64 0, .int .i64 0, .int .i64 0, .int .i64 0, .int .i64 0, .int .i64 0, .int .i64 0, .int .i64 0, .int .i64 0, .int .i64 0, .int .i64 0, .int .i64 0, .int .i64 0, .int .i64 0, .int .i64 0, .int .i64 0, .int .i64 0, .int .i64 0, .int .i64 0, .int .i64 0, .int .i64 0, .int .i64 0, .int .i64 0, .int .i64 0, .int .i64 0, .int .i64 0, .int .i64 0, .int .i64 0, .int .i64 0, .int .i64 0, .int .i64 0, .int .i64 0, .int .i64 0, .int .i64 0, .int .i64 0, .int .i64 0, .int .i64 0] 164)).heap[w.heap.size]? = some (.cells #[.slice A n cap, .string rd, .int .i64 er] 134 (0, 0)) := (Below.heap_alloc _ _ _ (by simp)).trans (heap_new_at _ _ _ rfl)
  have hn1 : RowN ((w.alloc (.cells #[.slice A n cap, .string rd, .int .i64 er] 134)).alloc (.cells #[.int .i64 0, .int .i64 0, .int .i64 0, .int .i64 0, .int .i64 0, .int .i64 0, .int .i64 0, .int .i64 0, .int .i64 0, .int .i64 0, .int .i64 0, .int .i64 0, .int .i64 0, .int .i64 0, .int .i64 0, .int .i64 0, .int .i64 0, .int .i64 0, .int .i64 0, .int .i64 0, .int .i64 0, .int .i64 0, .int .i64 0, .int .i64 0, .int .i64 0, .int .i64 0, .int .i64 0, .int .i64 0, .int .i64 0, .int .i64 0, .int .i64 0, .int .i64 0, .int .i64 0, .int .i64 0, .int .i64 0, .int .i64 0, .int .i64 0, .int .i64 0, .int .i64 0, .int .i64 0, .int .i64 0] 164)) (w.heap.size + 1) (fun _ => 0) := ⟨_, heap_new_at _ _ _ (by simp), zeros_row⟩
  have HB1 := Lib.hid hb0
  have HT1 := Lib.hid (show TirAt _ w.heap.size A n cap rd er from hn0)
  have HR1 := Lib.hid hn1
  have hnl : (nl rd).length = rd.size := nl_len rd
  have HNL := Lib.hid hnl
  clear hb0 hn0 hn1 hnl
  go_enter Try.func116, Try.ntmps116
  go_wp2_with fail
  generalize (w.alloc (.cells #[.slice A n cap, .string rd, .int .i64 er] 134)).alloc (.cells #[.int .i64 0, .int .i64 0, .int .i64 0, .int .i64 0, .int .i64 0, .int .i64 0, .int .i64 0, .int .i64 0, .int .i64 0, .int .i64 0, .int .i64 0, .int .i64 0, .int .i64 0, .int .i64 0, .int .i64 0, .int .i64 0, .int .i64 0, .int .i64 0, .int .i64 0, .int .i64 0, .int .i64 0, .int .i64 0, .int .i64 0, .int .i64 0, .int .i64 0, .int .i64 0, .int .i64 0, .int .i64 0, .int .i64 0, .int .i64 0, .int .i64 0, .int .i64 0, .int .i64 0, .int .i64 0, .int .i64 0, .int .i64 0, .int .i64 0, .int .i64 0, .int .i64 0, .int .i64 0, .int .i64 0] 164) = w1 at HB1 HT1 HR1 ⊢
  obtain ⟨Bt, Bo, hBt, hBo, hto, owt⟩ : ∃ Bt Bo, w.heap.size = Bt ∧ w.heap.size + 1 = Bo ∧ Bt ≠ Bo ∧ w.heap.size ≤ Bo := ⟨_, _, rfl, rfl, by omega, by omega⟩
  rw [hBo] at HR1 ⊢
  rw [hBt] at HT1 owt ⊢
  have OWT := Lib.hid (show w.heap.size ≤ Bo by omega)
  clear hBo hBt owt
  go_loopw [3] (BgRel w Bt Bo A n cap rd er) (fun i _ => 41 - (intOf i).toNat)
  case atStart => exact ⟨0, _, by omega, rfl, HR1.out, fun j hj => by
    obtain rfl : j = 0 := by omega
    simp [begR], HT1.out, HB1.out⟩
  case round =>
    obtain ⟨k, f, hk, rfl, hR, hf, hT, hB⟩ := hrel
    clear HR1 HT1 HB1
    have HF := Lib.hid hf
    clear hf
    by_cases h41 : k + 1 < 41
    · have h41' : decide ((k : Int) + 1 < 41) = true := by simp; omega
      have k0 : (0 : Int) ≤ (k : Int) + 1 := by omega
      have k1 : (k : Int) + 1 < 41 := by omega
      have k3 : (0 : Int) ≤ (k : Int) := by omega
      have k4 : (k : Int) < 41 := by omega
      have k5 : ((k : Int) + 1).toNat = k + 1 := by omega
      have z1 := hR.frozen (k + 1)
      have z2 := hR.cell h41
      have hR2 := hR.set h41 1048576
      have hB2 := hB.setCell (p := ⟨Bo, k + 1, none⟩) OWT.out (.int .i64 1048576)
      have hT2 : TirAt (wr.setCell ⟨Bo, k + 1, none⟩ (.int .i64 1048576)) Bt A n cap rd er := (Below.heap_setCell _ _ _ _ hto).trans hT
      have c1 : (wr.setCell ⟨Bo, k + 1, none⟩ (.int .i64 1048576)).cell? ⟨Bt, 1, none⟩ = some (.string rd) := by simp only [World.cell?, show (wr.setCell ⟨Bo, k + 1, none⟩ (.int .i64 1048576)).heap[Bt]? = _ from hT2]; rfl
      have HR2 := Lib.hid hR2
      have HT2 := Lib.hid hT2
      have HB2 := Lib.hid hB2
      clear hR hT hB hR2 hT2 hB2
      go_upto_region 5 with fail
      generalize wr.setCell ⟨Bo, k + 1, none⟩ (.int .i64 1048576) = w2 at HR2 HT2 HB2 c1 ⊢
      clear z1 z2
      by_cases hr : k + 1 ≤ rd.size
      · have hr' : decide ((k : Int) + 1 ≤ (rd.size : Int)) = true := by simp; omega
        have hkr : k < rd.size := by omega
        have r1 : (k : Int) < (rd.size : Int) := by omega
        have hrd := rdAt_elem hkr
        obtain ⟨y, hy⟩ : ∃ y, (rd[k]).toNat = y := ⟨_, rfl⟩
        rw [hy] at hrd
        have HY := Lib.hid hy
        have HRD := Lib.hid hrd
        clear hrd
        by_cases e : y = 32
        · have e1 : ((y : Int) == 32) = true := by simp [e]
          have hnew : begR (nl rd) (k + 1) = min far (begR (nl rd) k + 1) := by
            simp only [begR]
            rw [if_pos ⟨by rw [HNL.out]; exact hr, by rw [HRD.out]; exact e⟩]
          have hbd := begR_bd (nl rd) k
          have hfk := HF.out k (by omega)
          have c2 := HR2.out.cell (i := k) (by omega)
          rw [show setF f (k + 1) 1048576 k = begR (nl rd) k by unfold setF; rw [if_neg (by omega)]; exact hfk] at c2
          obtain ⟨v, hv⟩ : ∃ v, begR (nl rd) k = v := ⟨_, rfl⟩
          have hfar : far = 1048576 := rfl
          rw [hv] at c2 hbd hnew
          rw [hfar] at hbd hnew
          have HNEW := Lib.hid hnew
          have v0 := hbd.1
          have v1 := hbd.2
          have vw : IntKind.i64.wrap (v + 1) = v + 1 := IntWalk.i64_in _ (by omega)
          clear hv hnew hfk hbd hfar e
          have hb3 : Below w2.heap.size w2 (w2.alloc (.cells #[.int .i64 1048576, .int .i64 (v + 1)] 3)) := (Below.refl _ _).alloc (Nat.le_refl _) _
          have hn3 := Go.heap_alloc_new w2 (.cells #[.int .i64 1048576, .int .i64 (v + 1)] 3)
          have HM := Lib.hid (min2_any w2.heap.size 1048576 (v + 1) (w2.alloc (.cells #[.int .i64 1048576, .int .i64 (v + 1)] 3)) hn3)
          have hR3 := HR2.out.keep hb3 (Nat.le_refl _)
          have z1 := hR3.frozen (k + 1)
          have z2 := hR3.cell h41
          have HT4 := Lib.hid (show TirAt ((w2.alloc (.cells #[.int .i64 1048576, .int .i64 (v + 1)] 3)).setCell ⟨Bo, k + 1, none⟩ (.int .i64 (min 1048576 (v + 1)))) Bt A n cap rd er from (Below.heap_setCell _ _ _ _ hto).trans ((hb3.block Bt (Array.getElem?_eq_some_iff.1 (show w2.heap[Bt]? = _ from HT2.out)).1).trans HT2.out))
          have HR4 := Lib.hid (hR3.set h41 (min 1048576 (v + 1)))
          have HB4 := Lib.hid ((HB2.out.trans (hb3.mono HB2.out.size)).setCell (p := ⟨Bo, k + 1, none⟩) OWT.out (.int .i64 (min 1048576 (v + 1))))
          clear hb3 hn3 hR3
          go_wp2_with fail
          refine HM.out.mono ?_
          rintro e w' ⟨rfl, rfl⟩
          go_wp2_with fail
          go_roundw
          case rel => exact ⟨k + 1, _, by omega, by go_num, HR4.out, fun j hj => by
            unfold setF
            by_cases e : j = k + 1
            · rw [if_pos e, e, HNEW.out]
            · rw [if_neg e, if_neg e]; exact HF.out j (by omega), HT4.out, HB4.out⟩
          case measure => simp [intOf]; omega
        · have e1 : ((y : Int) == 32) = false := by simp; omega
          have hnew : begR (nl rd) (k + 1) = far := by
            simp only [begR]
            rw [if_neg (fun h => e (by rw [← HRD.out]; exact h.2))]
          have HNEW := Lib.hid hnew
          clear hnew
          go_wp2_with fail
          go_roundw
          case rel => exact ⟨k + 1, _, by omega, by go_num, HR2.out, fun j hj => by
            unfold setF
            by_cases e : j = k + 1
            · rw [if_pos e, e, HNEW.out]; rfl
            · rw [if_neg e]; exact HF.out j (by omega), HT2.out, HB2.out⟩
          case measure => simp [intOf]; omega
      · have hr' : decide ((k : Int) + 1 ≤ (rd.size : Int)) = false := by simp; omega
        have hnew : begR (nl rd) (k + 1) = far := by
          simp only [begR]
          rw [if_neg (fun h => hr (by have := h.1; rwa [HNL.out] at this))]
        have HNEW := Lib.hid hnew
        clear hnew
        go_wp2_with fail
        go_roundw
        case rel => exact ⟨k + 1, _, by omega, by go_num, HR2.out, fun j hj => by
          unfold setF
          by_cases e : j = k + 1
          · rw [if_pos e, e, HNEW.out]; rfl
          · rw [if_neg e]; exact HF.out j (by omega), HT2.out, HB2.out⟩
        case measure => simp [intOf]; omega
    · have h41' : decide ((k : Int) + 1 < 41) = false := by simp; omega
      obtain rfl : k = 40 := by omega
      have hR5 : RowN wr Bo (begR (nl rd)) := hR.congr fun i hi => (HF.out i (by omega)).symm
      obtain ⟨cs, hcb, hcs⟩ := hR5
      have HCB := Lib.hid hcb
      have HCS := Lib.hid hcs
      have HBF := Lib.hid hB
      clear hcb hcs hB hR hT
      have hq := heap_setRow_same (gs := cs) HCB.out
      have hbs : Below w.heap.size w (wr.setRow Bo cs) := ⟨HBF.out.os, HBF.out.tape, HBF.out.output, by unfold World.setRow; simpa using HBF.out.size, fun j hj => (heap_setRow wr cs (by have := OWT.out; omega)).trans (HBF.out.block j hj)⟩
      have HQ := Lib.hid hq
      have HBS := Lib.hid hbs
      clear hq hbs
      go_wp2_with (first | (refine wpList_load_row rfl 164 _ rfl _ rfl 164 cs _ _ HCB.out Try.underlying164 rfl HCS.out.info ?_) | (refine wpList_store_row rfl 164 _ _ rfl Bo cs rfl rfl 164 cs HCB.out HCS.out.info rfl HCS.out.one ?_))
      exact bodyPost_ret (v := .agg cs) (results_cell_row rfl _ _ Bo 164 cs _ _ rfl HQ.out Try.underlying164 rfl HCS.out.info) rfl ⟨cs, rfl, HCS.out, HBS.out⟩
end Go.Proofs.Ytkloaeaepjoijaa

/-
  Package flash: the row after one more sign.
-/
import Derived.Test.YtkloaeaepjoijaaT05
import Derived.Deep.CutRange
set_option linter.all false
namespace Go.Proofs.Ytkloaeaepjoijaa
open Go.RowKit Go.WalkArith
theorem setF_twice (f : Nat → Int) (k : Nat) (x y : Int) : setF (setF f k x) k y = setF f k y := by
  funext i
  unfold setF
  by_cases e : i = k
  · rw [if_pos e, if_pos e]
  · rw [if_neg e, if_neg e, if_neg e]
theorem setF_same (f : Nat → Int) (k : Nat) (x : Int) : setF f k x k = x := by unfold setF; rw [if_pos rfl]
theorem setF_ne (f : Nat → Int) {k i : Nat} (h : i ≠ k) (x : Int) : setF f k x i = f i := by unfold setF; rw [if_neg h]
/-- What sign works with. -/
structure SEnv (w : World) (Bt Br Bb Bo : Nat) (A : Option Addr) (n cap : Nat) (rd : ByteArray) (er : Int) (r b : Nat → Int) (W : World) (f : Nat → Int) : Prop where
  out : RowN W Bo f
  rowr : RowN W Br r
  rowb : RowN W Bb b
  tir : TirAt W Bt A n cap rd er
  below : Below w.heap.size w W
  lo : w.heap.size ≤ Bo
  nr : Br ≠ Bo
  nb : Bb ≠ Bo
  nt : Bt ≠ Bo
section
variable {w : World} {Bt Br Bb Bo : Nat} {A : Option Addr} {n cap : Nat} {rd : ByteArray} {er : Int} {r b : Nat → Int} {W W' : World} {f : Nat → Int}
theorem SEnv.keep (h : SEnv w Bt Br Bb Bo A n cap rd er r b W f) (hb : Below W.heap.size W W') : SEnv w Bt Br Bb Bo A n cap rd er r b W' f :=
  ⟨h.out.keep hb (Nat.le_refl _), h.rowr.keep hb (Nat.le_refl _), h.rowb.keep hb (Nat.le_refl _), (hb.block Bt (Array.getElem?_eq_some_iff.1 (show W.heap[Bt]? = _ from h.tir)).1).trans h.tir, h.below.trans (hb.mono h.below.size), h.lo, h.nr, h.nb, h.nt⟩
theorem SEnv.set (h : SEnv w Bt Br Bb Bo A n cap rd er r b W f) {k : Nat} (hk : k < 41) (x : Int) : SEnv w Bt Br Bb Bo A n cap rd er r b (W.setCell ⟨Bo, k, none⟩ (.int .i64 x)) (setF f k x) :=
  ⟨h.out.set hk x, h.rowr.other h.nr _ _, h.rowb.other h.nb _ _, (Below.heap_setCell _ _ _ _ h.nt).trans h.tir, h.below.setCell h.lo _, h.lo, h.nr, h.nb, h.nt⟩
theorem SEnv.set2 {k : Nat} {y : Int} (h : SEnv w Bt Br Bb Bo A n cap rd er r b W (setF f k y)) (hk : k < 41) (x : Int) : SEnv w Bt Br Bb Bo A n cap rd er r b (W.setCell ⟨Bo, k, none⟩ (.int .i64 x)) (setF f k x) := by
  have := h.set hk x
  rwa [setF_twice] at this
theorem SEnv.rdc (h : SEnv w Bt Br Bb Bo A n cap rd er r b W f) : W.cell? ⟨Bt, 1, none⟩ = some (.string rd) := by simp only [World.cell?, show W.heap[Bt]? = _ from h.tir]; rfl
end
def pick (c : Bool) (a b : Int) : Int := match c with
  | true => a
  | false => b
theorem pick_if {P : Prop} [Decidable P] {c : Bool} (h : c = true ↔ P) (a b : Int) : (if P then a else b) = pick c a b := by
  cases c with
  | true => rw [if_pos (h.1 rfl)]; rfl
  | false => rw [if_neg (fun hp => by have := h.2 hp; cases this)]; rfl
theorem pick_bd {c : Bool} {a b M : Int} (ha : 0 ≤ a ∧ a ≤ M) (hb : 0 ≤ b ∧ b ≤ M) : 0 ≤ pick c a b ∧ pick c a b ≤ M := by
  cases c
  · exact hb
  · exact ha
/-- One number of the row after a sign, by what is read there. -/
theorem sgnR_stage {rd : List Nat} {r b : Nat → Int} {last x k : Nat} {c2 c3 c4 c5 : Bool} (hk : k + 1 ≤ rd.length)
    (e2 : c2 = true ↔ rdAt rd k = x) (e3 : c3 = true ↔ (0 < k ∧ x = 45 ∧ rdAt rd (k - 1) = 46 ∧ rdAt rd k = 46)) (e4 : c4 = true ↔ (x = 46 ∧ last = 46 ∧ rdAt rd k = 45)) (e5 : c5 = true ↔ rdAt rd k = 32)
    {o2 o3 o4 o5 : Int} (h2 : pick c2 (min (r (k + 1) + 1) (r k)) (r (k + 1) + 1) = o2) (h3 : pick c3 (min o2 (r (k - 1) + 1)) o2 = o3) (h4 : pick c4 (min o3 (b k + 1)) o3 = o4) (h5 : pick c5 (min o4 (sgnR rd r b last x k + 1)) o4 = o5) :
    sgnR rd r b last x (k + 1) = min o5 far := by
  simp only [sgnR]
  rw [if_neg (by omega)]
  rw [pick_if e2, h2, pick_if e3, h3, pick_if e4, h4, pick_if e5, h5]
theorem ext_two {s : ByteArray} {k : Nat} (h : k + 2 ≤ s.size) : ((s.extract k (k + 2)).toList == [46, 46]) = true ↔ (rdAt (nl s) k = 46 ∧ rdAt (nl s) (k + 1) = 46) := by
  have hl := nl_len s
  have h0 : k < (nl s).length := by omega
  have h1 : k + 1 < (nl s).length := by omega
  have e : nl (s.extract k (k + 2)) = [(nl s)[k], (nl s)[k + 1]] := by
    rw [nl_ext, show k + 2 - k = 2 by omega, List.drop_eq_getElem_cons h0, List.drop_eq_getElem_cons h1]; rfl
  have r0 : rdAt (nl s) k = (nl s)[k] := by unfold rdAt; rw [List.getD_eq_getElem?_getD, List.getElem?_eq_getElem h0]; rfl
  have r1 : rdAt (nl s) (k + 1) = (nl s)[k + 1] := by unfold rdAt; rw [List.getD_eq_getElem?_getD, List.getElem?_eq_getElem h1]; rfl
  rw [r0, r1]
  have hs := str_eq (s.extract k (k + 2)) ⟨#[46, 46]⟩
  rw [show (ByteArray.mk #[46, 46]).toList = [46, 46] by rw [ByteArray.toList_eq], show nl ⟨#[46, 46]⟩ = [46, 46] by unfold nl; rw [ByteArray.toList_eq]; rfl, e] at hs
  rw [hs, decide_eq_true_eq]
  simp
theorem sgnR_nn' {rd : List Nat} {r b : Nat → Int} (hr : ∀ k, 0 ≤ r k ∧ r k ≤ far) (hb : ∀ k, 0 ≤ b k ∧ b k ≤ far) (last x k : Nat) : 0 ≤ sgnR rd r b last x k ∧ sgnR rd r b last x k ≤ far := ⟨sgnR_nn rd (fun k => (hr k).1) (fun k => (hb k).1) last x k, sgnR_far _ _ _ _ _ _⟩
def SnRel (w : World) (Bt Br Bb Bo : Nat) (A : Option Addr) (n cap : Nat) (rd : ByteArray) (er : Int) (r b : Nat → Int) (last x : Nat) (i : Value) (wr : World) : Prop :=
  ∃ (K : Nat) (f : Nat → Int), K ≤ 41 ∧ i = .int .i64 K ∧ SEnv w Bt Br Bb Bo A n cap rd er r b wr f ∧ ∀ j, j < K → f j = sgnR (nl rd) r b last x j
set_option maxRecDepth 100000 in
set_option maxHeartbeats 8000000 in
theorem sign_any (rd : ByteArray) (A : Option Addr) (n cap : Nat) (er : Int) (cr cb : Array Value) (r b : Nat → Int) (last x : Nat) (w : World) (hl : rd.size ≤ 40) (hcr : RowV cr r) (hcb : RowV cb b) (hr : ∀ k, 0 ≤ r k ∧ r k ≤ far) (hb : ∀ k, 0 ≤ b k ∧ b k ≤ far) :
    Calls Try.prog 131 #[.agg #[.slice A n cap, .string rd, .int .i64 er], .agg cr, .agg cb, .int .u8 last, .int .u8 x] w (RowPost (sgnR (nl rd) r b last x) w) := by
  have hb0 : Below w.heap.size w ((((w.alloc (.cells #[.slice A n cap, .string rd, .int .i64 er] 134)).alloc (.cells cr 164)).alloc (.cells cb 164)).alloc (.cells #[.int .i64 0, .int .i64 0, .int .i64 0, .int .i64 0, .int .i64 0, .int .i64 0, .int .i64 0, .int .i64 0, .int .i64 0, .int .i64 0, .int .i64 0, .int .i64 0, .int .i64 0, .int .i64 0, .int .i64 0, .int .i64 0, .int .i64 0, .int .i64 0, .int .i64 0, .int .i64 0, .int .i64 0, .int .i64 0, .int .i64 0, .int .i64 0, .int .i64 0, .int .i64 0, .int .i64 0, .int .i64 0, .int .i64 0, .int .i64 0, .int .i64 0, .int .i64 0, .int .i64 0, .int .i64 0, .int .i64 0, .int .i64 0, .int .i64 0, .int .i64 0, .int .i64 0, .int .i64 0, .int .i64 0] 164)) := ((((Below.refl _ _).alloc (Nat.le_refl _) _).alloc (by simp) _).alloc (by simp <;> omega) _).alloc (by simp <;> omega) _
  have hn0 : ((((w.alloc (.cells #[.slice A n cap, .string rd, .int .i64 er] 134)).alloc (.cells cr 164)).alloc (.cells cb 164)).alloc (.cells #[.int .i64 0, .int .i64 0, .int .i64 0, .int .i64 0, .int .i64 0, .int .i64 0, .int .i64 0, .int .i64 0, .int .i64 0, .int .i64 0, .int .i64 0, .int .i64 0, .int .i64 0, .int .i64 0, .int .i64 0, .int .i64 0, .int .i64 0, .int .i64 0, .int .i64 0, .int .i64 0, .int .i64 0, .int .i64 0, .int .i64 0, .int .i64 0, .int .i64 0, .int .i64 0, .int .i64 0, .int .i64 0, .int .i64 0, .int .i64 0, .int .i64 0, .int .i64 0, .int .i64 0, .int .i64 0, .int .i64 0, .int .i64 0, .int .i64 0, .int .i64 0, .int .i64 0, .int .i64 0, .int .i64 0] 164)).heap[w.heap.size]? = some (.cells #[.slice A n cap, .string rd, .int .i64 er] 134 (0, 0)) := (Below.heap_alloc _ _ _ (by simp <;> omega)).trans ((Below.heap_alloc _ _ _ (by simp <;> omega)).trans ((Below.heap_alloc _ _ _ (by simp <;> omega)).trans (heap_new_at _ _ _ rfl)))
  have hn1 : ((((w.alloc (.cells #[.slice A n cap, .string rd, .int .i64 er] 134)).alloc (.cells cr 164)).alloc (.cells cb 164)).alloc (.cells #[.int .i64 0, .int .i64 0, .int .i64 0, .int .i64 0, .int .i64 0, .int .i64 0, .int .i64 0, .int .i64 0, .int .i64 0, .int .i64 0, .int .i64 0, .int .i64 0, .int .i64 0, .int .i64 0, .int .i64 0, .int .i64 0, .int .i64 0, .int .i64 0, .int .i64 0, .int .i64 0, .int .i64 0, .int .i64 0, .int .i64 0, .int .i64 0, .int .i64 0, .int .i64 0, .int .i64 0, .int .i64 0, .int .i64 0, .int .i64 0, .int .i64 0, .int .i64 0, .int .i64 0, .int .i64 0, .int .i64 0, .int .i64 0, .int .i64 0, .int .i64 0, .int .i64 0, .int .i64 0, .int .i64 0] 164)).heap[w.heap.size + 1]? = some (.cells cr 164 (0, 0)) := (Below.heap_alloc _ _ _ (by simp <;> omega)).trans ((Below.heap_alloc _ _ _ (by simp <;> omega)).trans (heap_new_at _ _ _ (by simp)))
  have hn2 : ((((w.alloc (.cells #[.slice A n cap, .string rd, .int .i64 er] 134)).alloc (.cells cr 164)).alloc (.cells cb 164)).alloc (.cells #[.int .i64 0, .int .i64 0, .int .i64 0, .int .i64 0, .int .i64 0, .int .i64 0, .int .i64 0, .int .i64 0, .int .i64 0, .int .i64 0, .int .i64 0, .int .i64 0, .int .i64 0, .int .i64 0, .int .i64 0, .int .i64 0, .int .i64 0, .int .i64 0, .int .i64 0, .int .i64 0, .int .i64 0, .int .i64 0, .int .i64 0, .int .i64 0, .int .i64 0, .int .i64 0, .int .i64 0, .int .i64 0, .int .i64 0, .int .i64 0, .int .i64 0, .int .i64 0, .int .i64 0, .int .i64 0, .int .i64 0, .int .i64 0, .int .i64 0, .int .i64 0, .int .i64 0, .int .i64 0, .int .i64 0] 164)).heap[w.heap.size + 1 + 1]? = some (.cells cb 164 (0, 0)) := (Below.heap_alloc _ _ _ (by simp <;> omega)).trans (heap_new_at _ _ _ (by simp))
  have hn3 : ((((w.alloc (.cells #[.slice A n cap, .string rd, .int .i64 er] 134)).alloc (.cells cr 164)).alloc (.cells cb 164)).alloc (.cells #[.int .i64 0, .int .i64 0, .int .i64 0, .int .i64 0, .int .i64 0, .int .i64 0, .int .i64 0, .int .i64 0, .int .i64 0, .int .i64 0, .int .i64 0, .int .i64 0, .int .i64 0, .int .i64 0, .int .i64 0, .int .i64 0, .int .i64 0, .int .i64 0, .int .i64 0, .int .i64 0, .int .i64 0, .int .i64 0, .int .i64 0, .int .i64 0, .int .i64 0, .int .i64 0, .int .i64 0, .int .i64 0, .int .i64 0, .int .i64 0, .int .i64 0, .int .i64 0, .int .i64 0, .int .i64 0, .int .i64 0, .int .i64 0, .int .i64 0, .int .i64 0, .int .i64 0, .int .i64 0, .int .i64 0] 164)).heap[w.heap.size + 1 + 1 + 1]? = some (.cells #[.int .i64 0, .int .i64 0, .int .i64 0, .int .i64 0, .int .i64 0, .int .i64 0, .int .i64 0, .int .i64 0, .int .i64 0, .int .i64 0, .int .i64 0, .int .i64 0, .int .i64 0, .int .i64 0, .int .i64 0, .int .i64 0, .int .i64 0, .int .i64 0, .int .i64 0, .int .i64 0, .int .i64 0, .int .i64 0, .int .i64 0, .int .i64 0, .int .i64 0, .int .i64 0, .int .i64 0, .int .i64 0, .int .i64 0, .int .i64 0, .int .i64 0, .int .i64 0, .int .i64 0, .int .i64 0, .int .i64 0, .int .i64 0, .int .i64 0, .int .i64 0, .int .i64 0, .int .i64 0, .int .i64 0] 164 (0, 0)) := heap_new_at _ _ _ (by simp)
  have HE1 := Lib.hid (show SEnv w w.heap.size (w.heap.size + 1) (w.heap.size + 1 + 1) (w.heap.size + 1 + 1 + 1) A n cap rd er r b _ (fun _ => 0) from ⟨⟨_, hn3, zeros_row⟩, ⟨_, hn1, hcr⟩, ⟨_, hn2, hcb⟩, hn0, hb0, by omega, by omega, by omega, by omega⟩)
  have hnl : (nl rd).length = rd.size := nl_len rd
  have HNL := Lib.hid hnl
  have HR := Lib.hid hr
  have HBD := Lib.hid hb
  clear hb0 hn0 hn1 hn2 hn3 hnl hr hb
  go_enter Try.func131, Try.ntmps131
  go_wp2_with fail
  generalize (((w.alloc (.cells #[.slice A n cap, .string rd, .int .i64 er] 134)).alloc (.cells cr 164)).alloc (.cells cb 164)).alloc (.cells #[.int .i64 0, .int .i64 0, .int .i64 0, .int .i64 0, .int .i64 0, .int .i64 0, .int .i64 0, .int .i64 0, .int .i64 0, .int .i64 0, .int .i64 0, .int .i64 0, .int .i64 0, .int .i64 0, .int .i64 0, .int .i64 0, .int .i64 0, .int .i64 0, .int .i64 0, .int .i64 0, .int .i64 0, .int .i64 0, .int .i64 0, .int .i64 0, .int .i64 0, .int .i64 0, .int .i64 0, .int .i64 0, .int .i64 0, .int .i64 0, .int .i64 0, .int .i64 0, .int .i64 0, .int .i64 0, .int .i64 0, .int .i64 0, .int .i64 0, .int .i64 0, .int .i64 0, .int .i64 0, .int .i64 0] 164) = w1 at HE1 ⊢
  obtain ⟨Bt, hBt⟩ : ∃ B, w.heap.size = B := ⟨_, rfl⟩
  obtain ⟨Br, hBr⟩ : ∃ B, w.heap.size + 1 = B := ⟨_, rfl⟩
  obtain ⟨Bb, hBb⟩ : ∃ B, w.heap.size + 1 + 1 = B := ⟨_, rfl⟩
  obtain ⟨Bo, hBo⟩ : ∃ B, w.heap.size + 1 + 1 + 1 = B := ⟨_, rfl⟩
  have HE := Lib.hid (show SEnv w Bt Br Bb Bo A n cap rd er r b w1 (fun _ => 0) by rw [← hBo, ← hBb, ← hBr, ← hBt]; exact HE1.out)
  rw [hBo, hBb, hBr, hBt]
  clear hBo hBb hBr hBt HE1 hcr hcb
  go_loopw [12] (SnRel w Bt Br Bb Bo A n cap rd er r b last x) (fun i _ => 41 - (intOf i).toNat)
  case atStart => exact ⟨0, _, by omega, rfl, HE.out, fun j hj => by omega⟩
  case round =>
    obtain ⟨K, f, hK, rfl, hE, hf⟩ := hrel
    clear HE
    have HF := Lib.hid hf
    clear hf
    by_cases h41 : K < 41
    · have h41' : decide ((K : Int) < 41) = true := by simp; omega
      have k0 : (0 : Int) ≤ (K : Int) := by omega
      have k1 : (K : Int) < 41 := by omega
      have z1 := hE.out.frozen K
      have z2 := hE.out.cell h41
      have c1 := (hE.set h41 1048576).rdc
      have HE2 := Lib.hid (hE.set h41 1048576)
      clear hE
      go_upto_region 5 with fail
      generalize wr.setCell ⟨Bo, K, none⟩ (.int .i64 1048576) = w2 at HE2 c1 ⊢
      clear z1 z2
      by_cases hgt : rd.size < K
      · have hgt' : decide ((rd.size : Int) < (K : Int)) = true := by simp; omega
        have hnew : sgnR (nl rd) r b last x K = far := by
          obtain ⟨k, rfl⟩ : ∃ k, K = k + 1 := ⟨K - 1, by omega⟩
          simp only [sgnR]
          rw [if_pos (by rw [HNL.out]; exact hgt)]
        have HNEW := Lib.hid hnew
        clear hnew
        go_wp2_with fail
        go_roundw
        case rel => exact ⟨K + 1, _, by omega, by go_num, HE2.out, fun j hj => by
          by_cases e : j = K
          · rw [e, setF_same, HNEW.out]; rfl
          · rw [setF_ne _ e]; exact HF.out j (by omega)⟩
        case measure => simp [intOf]; omega
      · have hgt' : decide ((rd.size : Int) < (K : Int)) = false := by simp; omega
        obtain ⟨u0, hu0⟩ : ∃ u, r K = u := ⟨_, rfl⟩
        have hub := HR.out K
        have cr0 := HE2.out.rowr.cell h41
        rw [hu0] at hub cr0
        have ub0 := hub.1
        have ub1 : u0 ≤ 1048576 := hub.2
        have HU0 := Lib.hid hu0
        clear hub hu0
        have z1 := HE2.out.out.frozen K
        have z2 := HE2.out.out.cell h41
        have HE3 := Lib.hid (HE2.out.set2 h41 (u0 + 1))
        have c3 := HE3.out.rdc
        go_upto_region 7 with fail
        generalize w2.setCell ⟨Bo, K, none⟩ (.int .i64 (u0 + 1)) = w3 at HE3 c3 ⊢
        clear z1 z2 HE2 c1 cr0
        by_cases hz : K = 0
        · have hz1 : decide ((0 : Int) < (K : Int)) = false := by simp; omega
          have hz2 : decide ((1 : Int) < (K : Int)) = false := by simp; omega
          have hz3 : decide (0 < K) = false := by simp; omega
          have hz4 : ¬ 0 < K := by omega
          have HZ := Lib.hid hz
          clear hz
          have z1 := HE3.out.out.frozen K
          have z2 := HE3.out.out.cell h41
          rw [setF_same] at z2
          have hb9 : Below w3.heap.size w3 (w3.alloc (.cells #[.int .i64 (u0 + 1), .int .i64 1048576] 3)) := (Below.refl _ _).alloc (Nat.le_refl _) _
          have hn9 := Go.heap_alloc_new w3 (.cells #[.int .i64 (u0 + 1), .int .i64 1048576] 3)
          have HM9 := Lib.hid (min2_any w3.heap.size (u0 + 1) 1048576 (w3.alloc (.cells #[.int .i64 (u0 + 1), .int .i64 1048576] 3)) hn9)
          have y1 := (HE3.out.keep hb9).out.frozen K
          have y2 := (HE3.out.keep hb9).out.cell h41
          have HE9 := Lib.hid ((HE3.out.keep hb9).set2 h41 (min (u0 + 1) 1048576))
          have HNEW := Lib.hid (show sgnR (nl rd) r b last x K = min (u0 + 1) 1048576 from (by
            rw [HZ.out]
            simp only [sgnR]
            rw [if_pos (by omega), show r 0 = u0 by rw [← HU0.out, HZ.out]]; rfl))
          clear hb9 hn9
          go_wp2_with fail
          refine HM9.out.mono ?_
          rintro e w' ⟨rfl, rfl⟩
          go_wp2_with fail
          go_roundw
          case rel => exact ⟨K + 1, _, by omega, by go_num, HE9.out, fun j hj => by
            by_cases e : j = K
            · rw [e, setF_same, HNEW.out]
            · rw [setF_ne _ e]; exact HF.out j (by omega)⟩
          case measure => simp [intOf]; omega
        · obtain ⟨k, hk⟩ : ∃ k, K = k + 1 := ⟨K - 1, by omega⟩
          have hz1 : decide ((0 : Int) < (K : Int)) = true := by simp; omega
          have j1 : (k : Int) < (rd.size : Int) := by omega
          have j2 : (0 : Int) ≤ (k : Int) := by omega
          have j3 : (k : Int) < 41 := by omega
          have hks : (K : Int) - 1 = (k : Int) := by omega
          have hkw : IntKind.i64.wrap (k : Int) = (k : Int) := IntWalk.i64_in _ (by omega)
          have hkr : k < rd.size := by omega
          have hrd := rdAt_elem hkr
          obtain ⟨y, hy⟩ : ∃ y, (rd[k]).toNat = y := ⟨_, rfl⟩
          rw [hy] at hrd
          have HY := Lib.hid hy
          have HRD := Lib.hid hrd
          have HK := Lib.hid hk
          clear hrd hk hz
          obtain ⟨c2, hc2⟩ : ∃ c, ((y : Int) == (x : Int)) = c := ⟨_, rfl⟩
          have hu1 := HR.out k
          obtain ⟨u1, hu1e⟩ : ∃ u, r k = u := ⟨_, rfl⟩
          rw [hu1e] at hu1
          have HU1 := Lib.hid hu1e
          have u10 := hu1.1
          have u11 : u1 ≤ 1048576 := hu1.2
          clear hu1 hu1e
          go_upto_if 38 with fail
          go_cut [12] from 12 to 136 (fun s12 wc => s12 = .int .i64 (K : Int) ∧ SEnv w Bt Br Bb Bo A n cap rd er r b wc (setF f K (pick c2 (min (u0 + 1) u1) (u0 + 1))))
          case first =>
            cases c2 with
            | false =>
              go_wp2_with fail
              go_meet
              case rel => exact ⟨rfl, HE3.out⟩
            | true =>
              have d0 := HE3.out.out.cell h41
              rw [setF_same] at d0
              have d1 := HE3.out.rowr.cell (i := k) (by omega)
              rw [HU1.out] at d1
              go_wp2_with fail
              refine wp_region_T [11] (S := fun X => X.cell? ⟨Bo, K, none⟩ = some (.int .i64 (u0 + 1)) ∧ X.cell? ⟨Br, k, none⟩ = some (.int .i64 (u1))) (by kernel_rfl) (⟨d0, d1⟩) (fun hS0 => ?_)
              refine wpAnyT_take (i := 0) (oi := { dst := some 39, op := Op.move (Operand.tmp 11), type := 3, pos := "texts.go:39", after := #[], guard := none }) (v := ?_) rfl (by kernel_rfl) (by kernel_rfl) (by kernel_rfl) (by kernel_rfl) (fun _ _ _ h => h) (Or.inl ⟨by rfl, ?_⟩) hS0 ?_
              rotate_left
              · intro X hX
                obtain ⟨x0, x1⟩ := hX
                go_simp
                try with_reducible rfl
              simp only [Act.put, List.setIfInBounds_toArray, List.set_cons_zero, List.set_cons_succ, Array.toArray_toList]
              refine wpAnyT_take (i := 1) (oi := { dst := some 40, op := Op.move (Operand.tmp 11), type := 3, pos := "texts.go:39", after := #[], guard := none }) (v := ?_) rfl (by kernel_rfl) (by kernel_rfl) (by kernel_rfl) (by kernel_rfl) (fun _ _ _ h => h) (Or.inl ⟨by rfl, ?_⟩) hS0 ?_
              rotate_left
              · intro X hX
                obtain ⟨x0, x1⟩ := hX
                go_simp
                try with_reducible rfl
              simp only [Act.put, List.setIfInBounds_toArray, List.set_cons_zero, List.set_cons_succ, Array.toArray_toList]
              refine wpAnyT_take (i := 2) (oi := { dst := some 41, op := Op.indexAddr 164 (Operand.tmp 10) (Operand.tmp 40), type := 0, pos := "texts.go:39", after := #[{ on := 1, ground := Ground.data }], guard := none }) (v := ?_) rfl (by kernel_rfl) (by kernel_rfl) (by kernel_rfl) (by kernel_rfl) (fun _ _ _ h => h) (Or.inl ⟨by rfl, ?_⟩) hS0 ?_
              rotate_left
              · intro X hX
                obtain ⟨x0, x1⟩ := hX
                go_simp
                try with_reducible rfl
              simp only [Act.put, List.setIfInBounds_toArray, List.set_cons_zero, List.set_cons_succ, Array.toArray_toList]
              refine wpAnyT_take (i := 3) (oi := { dst := some 42, op := Op.load 3 (Operand.tmp 41), type := 3, pos := "texts.go:39", after := #[{ on := 2, ground := Ground.data }], guard := none }) (v := ?_) rfl (by kernel_rfl) (by kernel_rfl) (by kernel_rfl) (by kernel_rfl) (fun _ _ _ h => h) (Or.inl ⟨by rfl, ?_⟩) hS0 ?_
              rotate_left
              · intro X hX
                obtain ⟨x0, x1⟩ := hX
                go_simp
                try with_reducible rfl
              simp only [Act.put, List.setIfInBounds_toArray, List.set_cons_zero, List.set_cons_succ, Array.toArray_toList]
              refine wpAnyT_take (i := 4) (oi := { dst := some 43, op := Op.move (Operand.tmp 11), type := 3, pos := "texts.go:39", after := #[], guard := none }) (v := ?_) rfl (by kernel_rfl) (by kernel_rfl) (by kernel_rfl) (by kernel_rfl) (fun _ _ _ h => h) (Or.inl ⟨by rfl, ?_⟩) hS0 ?_
              rotate_left
              · intro X hX
                obtain ⟨x0, x1⟩ := hX
                go_simp
                try with_reducible rfl
              simp only [Act.put, List.setIfInBounds_toArray, List.set_cons_zero, List.set_cons_succ, Array.toArray_toList]
              refine wpAnyT_take (i := 5) (oi := { dst := some 44, op := Op.binOp BinOp.sub 3 (Operand.tmp 43) (Operand.const (Value.int IntKind.i64 1)) 3, type := 3, pos := "texts.go:39", after := #[{ on := 4, ground := Ground.data }], guard := none }) (v := ?_) rfl (by kernel_rfl) (by kernel_rfl) (by kernel_rfl) (by kernel_rfl) (fun _ _ _ h => h) (Or.inl ⟨by rfl, ?_⟩) hS0 ?_
              rotate_left
              · intro X hX
                obtain ⟨x0, x1⟩ := hX
                go_simp
                try with_reducible rfl
              simp only [Act.put, List.setIfInBounds_toArray, List.set_cons_zero, List.set_cons_succ, Array.toArray_toList]
              refine wpAnyT_take (i := 6) (oi := { dst := some 45, op := Op.indexAddr 164 (Operand.tmp 6) (Operand.tmp 44), type := 0, pos := "texts.go:39", after := #[{ on := 5, ground := Ground.data }], guard := none }) (v := ?_) rfl (by kernel_rfl) (by kernel_rfl) (by kernel_rfl) (by kernel_rfl) (fun _ _ _ h => h) (Or.inl ⟨by rfl, ?_⟩) hS0 ?_
              rotate_left
              · intro X hX
                obtain ⟨x0, x1⟩ := hX
                go_simp
                try with_reducible rfl
              simp only [Act.put, List.setIfInBounds_toArray, List.set_cons_zero, List.set_cons_succ, Array.toArray_toList]
              refine wpAnyT_take (i := 7) (oi := { dst := some 46, op := Op.load 3 (Operand.tmp 45), type := 3, pos := "texts.go:39", after := #[{ on := 6, ground := Ground.data }], guard := none }) (v := ?_) rfl (by kernel_rfl) (by kernel_rfl) (by kernel_rfl) (by kernel_rfl) (fun _ _ _ h => h) (Or.inl ⟨by rfl, ?_⟩) hS0 ?_
              rotate_left
              · intro X hX
                obtain ⟨x0, x1⟩ := hX
                go_simp
                try with_reducible rfl
              simp only [Act.put, List.setIfInBounds_toArray, List.set_cons_zero, List.set_cons_succ, Array.toArray_toList]
              refine wpAnyT_one (i := 8) (o := { dst := some 47, op := Op.buildSlice 25 2 #[(0, Operand.tmp 42), (1, Operand.tmp 46)], type := 25, pos := "texts.go:39", after := #[{ on := 3, ground := Ground.data }, { on := 7, ground := Ground.data }], guard := none }) (by kernel_rfl) rfl (fun K hK => ?_)
              go_simp
              have hbq1 : Below w3.heap.size w3 (w3.alloc (.cells #[.int .i64 (u0 + 1), .int .i64 (u1)] 3)).drew := ((Below.refl _ _).alloc (Nat.le_refl _) _).drew
              have hnq1 : (w3.alloc (.cells #[.int .i64 (u0 + 1), .int .i64 (u1)] 3)).drew.heap[w3.heap.size]? = some (.cells #[.int .i64 (u0 + 1), .int .i64 (u1)] 3 (0, 0)) := Go.heap_alloc_new w3 _
              have HQq1 := Lib.hid (HE3.out.keep hbq1)
              have m0 := cell_later hbq1 d0
              have m1 := cell_later hbq1 d1
              obtain ⟨Bn, hBn⟩ : ∃ B, w3.heap.size = B := ⟨_, rfl⟩
              rw [hBn] at hnq1 ⊢
              clear hBn hbq1
              generalize (w3.alloc (.cells #[.int .i64 (u0 + 1), .int .i64 (u1)] 3)).drew = y1 at HQq1 hnq1 m0 m1 ⊢
              refine hK.out _ _ (fun _ => ⟨m0, m1⟩) (fun hS1q => ?_)
              have hS1 := hS1q rfl
              clear hS1q hS0 hK K
              refine wpAnyT_one (i := 9) (o := { dst := some 48, op := Op.call { callee := Callee.value (Operand.func 132), args := #[Operand.tmp 47], argTypes := #[25] }, type := 3, pos := "texts.go:39", after := #[{ on := 8, ground := Ground.data }], guard := none }) (by kernel_rfl) rfl (fun K hK => ?_)
              go_simp
              refine (min2_any Bn _ _ y1 hnq1).mono ?_
              rintro e w' ⟨rfl, rfl⟩
              go_wp2_with fail
              refine hK.out _ _ (fun _ => ⟨m0, m1⟩) (fun hS2q => ?_)
              have hS2 := hS2q rfl
              clear hS2q hS1 hK K
              refine wpAnyT_take (i := 10) (oi := { dst := some 49, op := Op.indexAddr 164 (Operand.tmp 10) (Operand.tmp 39), type := 0, pos := "texts.go:39", after := #[{ on := 0, ground := Ground.data }, { on := 0, ground := Ground.phase }, { on := 1, ground := Ground.phase }, { on := 2, ground := Ground.phase }, { on := 3, ground := Ground.phase }, { on := 4, ground := Ground.phase }, { on := 5, ground := Ground.phase }, { on := 6, ground := Ground.phase }, { on := 7, ground := Ground.phase }, { on := 8, ground := Ground.phase }, { on := 9, ground := Ground.phase }], guard := none }) (v := ?_) rfl (by kernel_rfl) (by kernel_rfl) (by kernel_rfl) (by kernel_rfl) (fun _ _ _ h => h) (Or.inl ⟨by rfl, ?_⟩) hS2 ?_
              rotate_left
              · intro X hX
                obtain ⟨x0, x1⟩ := hX
                go_simp
                try with_reducible rfl
              simp only [Act.put, List.setIfInBounds_toArray, List.set_cons_zero, List.set_cons_succ, Array.toArray_toList]
              have z1 := HQq1.out.out.frozen K
              refine wpAnyT_one (i := 11) (o := { dst := none, op := Op.store 3 (Operand.tmp 49) (Operand.tmp 48), type := 0, pos := "texts.go:39", after := #[{ on := 10, ground := Ground.data }, { on := 9, ground := Ground.data }, { on := 9, ground := Ground.chain }, { on := 0, ground := Ground.phase }, { on := 1, ground := Ground.phase }, { on := 2, ground := Ground.phase }, { on := 3, ground := Ground.phase }, { on := 4, ground := Ground.phase }, { on := 5, ground := Ground.phase }, { on := 6, ground := Ground.phase }, { on := 7, ground := Ground.phase }, { on := 8, ground := Ground.phase }, { on := 9, ground := Ground.phase }], guard := none }) (by kernel_rfl) rfl (fun K hK => ?_)
              go_simp
              refine hK.out _ _ (fun h => absurd h (by decide)) (fun _ => ?_)
              clear hK K
              refine wpAnyT_done (by kernel_rfl) ?_ _
              clear hS2
              have HFq1 := Lib.hid (HQq1.out.set2 h41 (min (u0 + 1) (u1)))
              clear z1 m0 m1 hnq1 HQq1
              go_wp2_with fail
              go_meet
              case rel => exact ⟨rfl, HFq1.out⟩
          case rest =>
            generalize wc = w4 at hcut ⊢
            obtain ⟨rfl, hE4⟩ := hcut
            clear HE3

            obtain ⟨o2, ho2⟩ : ∃ o, pick c2 (min (u0 + 1) u1) (u0 + 1) = o := ⟨_, rfl⟩
            have hb2 := pick_bd (c := c2) (a := min (u0 + 1) u1) (b := u0 + 1) (M := 1048577) (by omega) (by omega)
            rw [ho2] at hE4 hb2
            have HO2 := Lib.hid ho2
            have HE4 := Lib.hid hE4
            have HC2 := Lib.hid hc2
            have b20 := hb2.1
            have b21 := hb2.2
            clear ho2 hE4 hb2 hc2 c3
            have c3 := HE4.out.rdc
            obtain ⟨C3, hC3⟩ : ∃ c, (decide (1 < K) && (x == 45) && ((rd.extract (k - 1) K).toList == [46, 46])) = c := ⟨_, rfl⟩
            have HC3 := Lib.hid hC3
            clear hC3
            go_upto_region 9 with fail
            go_cut [12, 64] from 12 to 136 (fun s12 s64 wc => s12 = .int .i64 (K : Int) ∧ s64 = .bool C3 ∧ w4 = wc)
            case first =>
              by_cases h1K : 1 < K
              · have q1 : decide ((1 : Int) < (K : Int)) = true := by simp; omega
                by_cases hx : x = 45
                · have q2 : ((x : Int) == 45) = true := by simp [hx]
                  have q3 : (K : Int) - 2 = ((k - 1 : Nat) : Int) := by omega
                  have q4 : (0 : Int) ≤ ((k - 1 : Nat) : Int) := by omega
                  have q5 : ((k - 1 : Nat) : Int) ≤ (K : Int) := by omega
                  have q6 : (K : Int) ≤ (rd.size : Int) := by omega
                  have HX := Lib.hid hx
                  clear hx
                  obtain ⟨m, hm⟩ : ∃ m, k - 1 = m := ⟨_, rfl⟩
                  rw [hm] at q3 q4 q5 HC3
                  clear hm
                  cases hW : ((rd.extract m K).toList == [46, 46]) with
                  | true =>
                    have HW := Lib.hid hW
                    go_wp2_with fail
                    go_meet
                    case rel => exact ⟨rfl, by rw [← HC3.out, HW.out, HX.out, decide_eq_true h1K]; rfl, rfl⟩
                  | false =>
                    have HW := Lib.hid hW
                    go_wp2_with fail
                    go_meet
                    case rel => exact ⟨rfl, by rw [← HC3.out, HW.out, Bool.and_false], rfl⟩
                · have q2 : ((x : Int) == 45) = false := by simp; omega
                  go_wp2_with fail
                  go_meet
                  case rel => exact ⟨rfl, by rw [← HC3.out, show (x == 45) = false from by simpa using hx, Bool.and_false, Bool.false_and], rfl⟩
              · have q1 : decide ((1 : Int) < (K : Int)) = false := by simp; omega
                go_wp2_with fail
                go_meet
                case rel => exact ⟨rfl, by rw [← HC3.out, decide_eq_false h1K, Bool.false_and, Bool.false_and], rfl⟩
            case rest =>
              obtain ⟨rfl, rfl, rfl⟩ := hcut
              have hu2 := HR.out (k - 1)
              obtain ⟨u2, hu2e⟩ : ∃ u, r (k - 1) = u := ⟨_, rfl⟩
              rw [hu2e] at hu2
              have HU2 := Lib.hid hu2e
              have u20 := hu2.1
              have u21 : u2 ≤ 1048576 := hu2.2
              clear hu2 hu2e
              go_upto_if 64 with fail
              go_cut [12] from 12 to 136 (fun s12 wc => s12 = .int .i64 (K : Int) ∧ SEnv w Bt Br Bb Bo A n cap rd er r b wc (setF f K (pick C3 (min o2 (u2 + 1)) (o2))))
              case first =>
                cases C3 with
                | false =>
                  go_wp2_with fail
                  go_meet
                  case rel => exact ⟨rfl, HE4.out⟩
                | true =>
                  have h1K : 1 < K := by
                    have := HC3.out
                    rw [Bool.and_eq_true, Bool.and_eq_true, decide_eq_true_eq] at this
                    exact this.1.1
                  have d0 := HE4.out.out.cell h41
                  rw [setF_same] at d0
                  have d1 := HE4.out.rowr.cell (i := k - 1) (by omega)
                  rw [HU2.out] at d1
                  have q3 : (K : Int) - 2 = ((k - 1 : Nat) : Int) := by omega
                  have q4 : (0 : Int) ≤ ((k - 1 : Nat) : Int) := by omega
                  have q5 : ((k - 1 : Nat) : Int) < 41 := by omega
                  obtain ⟨m, hm⟩ : ∃ m, k - 1 = m := ⟨_, rfl⟩
                  rw [hm] at q3 q4 q5 d1
                  clear hm h1K
                  have q6 : IntKind.i64.wrap (m : Int) = (m : Int) := IntWalk.i64_in _ (by omega)
                  have q7 : IntKind.i64.wrap (u2 + 1) = u2 + 1 := IntWalk.i64_in _ (by omega)
                  go_wp2_with fail
                  refine wp_region_T [12] (S := fun X => X.cell? ⟨Bo, K, none⟩ = some (.int .i64 (o2)) ∧ X.cell? ⟨Br, m, none⟩ = some (.int .i64 (u2))) (by kernel_rfl) (⟨d0, d1⟩) (fun hS0 => ?_)
                  refine wpAnyT_take (i := 0) (oi := { dst := some 65, op := Op.move (Operand.tmp 11), type := 3, pos := "texts.go:42", after := #[], guard := none }) (v := ?_) rfl (by kernel_rfl) (by kernel_rfl) (by kernel_rfl) (by kernel_rfl) (fun _ _ _ h => h) (Or.inl ⟨by rfl, ?_⟩) hS0 ?_
                  rotate_left
                  · intro X hX
                    obtain ⟨x0, x1⟩ := hX
                    go_simp
                    try with_reducible rfl
                  simp only [Act.put, List.setIfInBounds_toArray, List.set_cons_zero, List.set_cons_succ, Array.toArray_toList]
                  refine wpAnyT_take (i := 1) (oi := { dst := some 66, op := Op.move (Operand.tmp 11), type := 3, pos := "texts.go:42", after := #[], guard := none }) (v := ?_) rfl (by kernel_rfl) (by kernel_rfl) (by kernel_rfl) (by kernel_rfl) (fun _ _ _ h => h) (Or.inl ⟨by rfl, ?_⟩) hS0 ?_
                  rotate_left
                  · intro X hX
                    obtain ⟨x0, x1⟩ := hX
                    go_simp
                    try with_reducible rfl
                  simp only [Act.put, List.setIfInBounds_toArray, List.set_cons_zero, List.set_cons_succ, Array.toArray_toList]
                  refine wpAnyT_take (i := 2) (oi := { dst := some 67, op := Op.indexAddr 164 (Operand.tmp 10) (Operand.tmp 66), type := 0, pos := "texts.go:42", after := #[{ on := 1, ground := Ground.data }], guard := none }) (v := ?_) rfl (by kernel_rfl) (by kernel_rfl) (by kernel_rfl) (by kernel_rfl) (fun _ _ _ h => h) (Or.inl ⟨by rfl, ?_⟩) hS0 ?_
                  rotate_left
                  · intro X hX
                    obtain ⟨x0, x1⟩ := hX
                    go_simp
                    try with_reducible rfl
                  simp only [Act.put, List.setIfInBounds_toArray, List.set_cons_zero, List.set_cons_succ, Array.toArray_toList]
                  refine wpAnyT_take (i := 3) (oi := { dst := some 68, op := Op.load 3 (Operand.tmp 67), type := 3, pos := "texts.go:42", after := #[{ on := 2, ground := Ground.data }], guard := none }) (v := ?_) rfl (by kernel_rfl) (by kernel_rfl) (by kernel_rfl) (by kernel_rfl) (fun _ _ _ h => h) (Or.inl ⟨by rfl, ?_⟩) hS0 ?_
                  rotate_left
                  · intro X hX
                    obtain ⟨x0, x1⟩ := hX
                    go_simp
                    try with_reducible rfl
                  simp only [Act.put, List.setIfInBounds_toArray, List.set_cons_zero, List.set_cons_succ, Array.toArray_toList]
                  refine wpAnyT_take (i := 4) (oi := { dst := some 69, op := Op.move (Operand.tmp 11), type := 3, pos := "texts.go:42", after := #[], guard := none }) (v := ?_) rfl (by kernel_rfl) (by kernel_rfl) (by kernel_rfl) (by kernel_rfl) (fun _ _ _ h => h) (Or.inl ⟨by rfl, ?_⟩) hS0 ?_
                  rotate_left
                  · intro X hX
                    obtain ⟨x0, x1⟩ := hX
                    go_simp
                    try with_reducible rfl
                  simp only [Act.put, List.setIfInBounds_toArray, List.set_cons_zero, List.set_cons_succ, Array.toArray_toList]
                  refine wpAnyT_take (i := 5) (oi := { dst := some 70, op := Op.binOp BinOp.sub 3 (Operand.tmp 69) (Operand.const (Value.int IntKind.i64 2)) 3, type := 3, pos := "texts.go:42", after := #[{ on := 4, ground := Ground.data }], guard := none }) (v := ?_) rfl (by kernel_rfl) (by kernel_rfl) (by kernel_rfl) (by kernel_rfl) (fun _ _ _ h => h) (Or.inl ⟨by rfl, ?_⟩) hS0 ?_
                  rotate_left
                  · intro X hX
                    obtain ⟨x0, x1⟩ := hX
                    go_simp
                    try with_reducible rfl
                  simp only [Act.put, List.setIfInBounds_toArray, List.set_cons_zero, List.set_cons_succ, Array.toArray_toList]
                  refine wpAnyT_take (i := 6) (oi := { dst := some 71, op := Op.indexAddr 164 (Operand.tmp 6) (Operand.tmp 70), type := 0, pos := "texts.go:42", after := #[{ on := 5, ground := Ground.data }], guard := none }) (v := ?_) rfl (by kernel_rfl) (by kernel_rfl) (by kernel_rfl) (by kernel_rfl) (fun _ _ _ h => h) (Or.inl ⟨by rfl, ?_⟩) hS0 ?_
                  rotate_left
                  · intro X hX
                    obtain ⟨x0, x1⟩ := hX
                    go_simp
                    try with_reducible rfl
                  simp only [Act.put, List.setIfInBounds_toArray, List.set_cons_zero, List.set_cons_succ, Array.toArray_toList]
                  refine wpAnyT_take (i := 7) (oi := { dst := some 72, op := Op.load 3 (Operand.tmp 71), type := 3, pos := "texts.go:42", after := #[{ on := 6, ground := Ground.data }], guard := none }) (v := ?_) rfl (by kernel_rfl) (by kernel_rfl) (by kernel_rfl) (by kernel_rfl) (fun _ _ _ h => h) (Or.inl ⟨by rfl, ?_⟩) hS0 ?_
                  rotate_left
                  · intro X hX
                    obtain ⟨x0, x1⟩ := hX
                    go_simp
                    try with_reducible rfl
                  simp only [Act.put, List.setIfInBounds_toArray, List.set_cons_zero, List.set_cons_succ, Array.toArray_toList]
                  refine wpAnyT_take (i := 8) (oi := { dst := some 73, op := Op.binOp BinOp.add 3 (Operand.tmp 72) (Operand.const (Value.int IntKind.i64 1)) 3, type := 3, pos := "texts.go:42", after := #[{ on := 7, ground := Ground.data }], guard := none }) (v := ?_) rfl (by kernel_rfl) (by kernel_rfl) (by kernel_rfl) (by kernel_rfl) (fun _ _ _ h => h) (Or.inl ⟨by rfl, ?_⟩) hS0 ?_
                  rotate_left
                  · intro X hX
                    obtain ⟨x0, x1⟩ := hX
                    go_simp
                    try with_reducible rfl
                  simp only [Act.put, List.setIfInBounds_toArray, List.set_cons_zero, List.set_cons_succ, Array.toArray_toList]
                  refine wpAnyT_one (i := 9) (o := { dst := some 74, op := Op.buildSlice 25 2 #[(0, Operand.tmp 68), (1, Operand.tmp 73)], type := 25, pos := "texts.go:42", after := #[{ on := 3, ground := Ground.data }, { on := 8, ground := Ground.data }], guard := none }) (by kernel_rfl) rfl (fun K hK => ?_)
                  go_simp
                  have hbq2 : Below w4.heap.size w4 (w4.alloc (.cells #[.int .i64 (o2), .int .i64 ((u2) + 1)] 3)).drew := ((Below.refl _ _).alloc (Nat.le_refl _) _).drew
                  have hnq2 : (w4.alloc (.cells #[.int .i64 (o2), .int .i64 ((u2) + 1)] 3)).drew.heap[w4.heap.size]? = some (.cells #[.int .i64 (o2), .int .i64 ((u2) + 1)] 3 (0, 0)) := Go.heap_alloc_new w4 _
                  have HQq2 := Lib.hid (HE4.out.keep hbq2)
                  have m0 := cell_later hbq2 d0
                  have m1 := cell_later hbq2 d1
                  obtain ⟨Bn, hBn⟩ : ∃ B, w4.heap.size = B := ⟨_, rfl⟩
                  rw [hBn] at hnq2 ⊢
                  clear hBn hbq2
                  generalize (w4.alloc (.cells #[.int .i64 (o2), .int .i64 ((u2) + 1)] 3)).drew = y1 at HQq2 hnq2 m0 m1 ⊢
                  refine hK.out _ _ (fun _ => ⟨m0, m1⟩) (fun hS1q => ?_)
                  have hS1 := hS1q rfl
                  clear hS1q hS0 hK K
                  refine wpAnyT_one (i := 10) (o := { dst := some 75, op := Op.call { callee := Callee.value (Operand.func 132), args := #[Operand.tmp 74], argTypes := #[25] }, type := 3, pos := "texts.go:42", after := #[{ on := 9, ground := Ground.data }], guard := none }) (by kernel_rfl) rfl (fun K hK => ?_)
                  go_simp
                  refine (min2_any Bn _ _ y1 hnq2).mono ?_
                  rintro e w' ⟨rfl, rfl⟩
                  go_wp2_with fail
                  refine hK.out _ _ (fun _ => ⟨m0, m1⟩) (fun hS2q => ?_)
                  have hS2 := hS2q rfl
                  clear hS2q hS1 hK K
                  refine wpAnyT_take (i := 11) (oi := { dst := some 76, op := Op.indexAddr 164 (Operand.tmp 10) (Operand.tmp 65), type := 0, pos := "texts.go:42", after := #[{ on := 0, ground := Ground.data }, { on := 0, ground := Ground.phase }, { on := 1, ground := Ground.phase }, { on := 2, ground := Ground.phase }, { on := 3, ground := Ground.phase }, { on := 4, ground := Ground.phase }, { on := 5, ground := Ground.phase }, { on := 6, ground := Ground.phase }, { on := 7, ground := Ground.phase }, { on := 8, ground := Ground.phase }, { on := 9, ground := Ground.phase }, { on := 10, ground := Ground.phase }], guard := none }) (v := ?_) rfl (by kernel_rfl) (by kernel_rfl) (by kernel_rfl) (by kernel_rfl) (fun _ _ _ h => h) (Or.inl ⟨by rfl, ?_⟩) hS2 ?_
                  rotate_left
                  · intro X hX
                    obtain ⟨x0, x1⟩ := hX
                    go_simp
                    try with_reducible rfl
                  simp only [Act.put, List.setIfInBounds_toArray, List.set_cons_zero, List.set_cons_succ, Array.toArray_toList]
                  have z1 := HQq2.out.out.frozen K
                  refine wpAnyT_one (i := 12) (o := { dst := none, op := Op.store 3 (Operand.tmp 76) (Operand.tmp 75), type := 0, pos := "texts.go:42", after := #[{ on := 11, ground := Ground.data }, { on := 10, ground := Ground.data }, { on := 10, ground := Ground.chain }, { on := 0, ground := Ground.phase }, { on := 1, ground := Ground.phase }, { on := 2, ground := Ground.phase }, { on := 3, ground := Ground.phase }, { on := 4, ground := Ground.phase }, { on := 5, ground := Ground.phase }, { on := 6, ground := Ground.phase }, { on := 7, ground := Ground.phase }, { on := 8, ground := Ground.phase }, { on := 9, ground := Ground.phase }, { on := 10, ground := Ground.phase }], guard := none }) (by kernel_rfl) rfl (fun K hK => ?_)
                  go_simp
                  refine hK.out _ _ (fun h => absurd h (by decide)) (fun _ => ?_)
                  clear hK K
                  refine wpAnyT_done (by kernel_rfl) ?_ _
                  clear hS2
                  have HFq2 := Lib.hid (HQq2.out.set2 h41 (min (o2) ((u2) + 1)))
                  clear z1 m0 m1 hnq2 HQq2
                  go_wp2_with fail
                  go_meet
                  case rel => exact ⟨rfl, HFq2.out⟩
              case rest =>
                generalize wc = w5 at hcut ⊢
                obtain ⟨rfl, hE5⟩ := hcut
                clear HE4

                obtain ⟨o3, ho3⟩ : ∃ o, pick C3 (min o2 (u2 + 1)) o2 = o := ⟨_, rfl⟩
                have hb3 := pick_bd (c := C3) (a := min o2 (u2 + 1)) (b := o2) (M := 1048577) (by omega) (by omega)
                rw [ho3] at hE5 hb3
                have HO3 := Lib.hid ho3
                have HE5 := Lib.hid hE5
                have b30 := hb3.1
                have b31 := hb3.2
                clear ho3 hE5 hb3 c3
                have c3 := HE5.out.rdc
                obtain ⟨C4, hC4⟩ : ∃ c, ((x == 46) && (last == 46) && (y == 45)) = c := ⟨_, rfl⟩
                have HC4 := Lib.hid hC4
                clear hC4
                go_upto_region 11 with fail
                go_cut [12, 94] from 12 to 136 (fun s12 s94 wc => s12 = .int .i64 (K : Int) ∧ s94 = .bool C4 ∧ w5 = wc)
                case first =>
                  by_cases hx : x = 46
                  · have q1 : ((x : Int) == 46) = true := by simp [hx]
                    by_cases hla : last = 46
                    · have q2 : ((last : Int) == 46) = true := by simp [hla]
                      by_cases hy5 : y = 45
                      · have q3 : ((y : Int) == 45) = true := by simp [hy5]
                        have HX := Lib.hid hx
                        have HLA := Lib.hid hla
                        have HY5 := Lib.hid hy5
                        clear hx hla hy5
                        go_wp2_with fail
                        go_meet
                        case rel => exact ⟨rfl, by rw [← HC4.out, HX.out, HLA.out, HY5.out]; rfl, rfl⟩
                      · have q3 : ((y : Int) == 45) = false := by simp; omega
                        have HX := Lib.hid hx
                        have HLA := Lib.hid hla
                        clear hx hla
                        go_wp2_with fail
                        go_meet
                        case rel => exact ⟨rfl, by rw [← HC4.out, show (y == 45) = false from by simpa using hy5, Bool.and_false], rfl⟩
                    · have q2 : ((last : Int) == 46) = false := by simp; omega
                      have HX := Lib.hid hx
                      clear hx
                      go_wp2_with fail
                      go_meet
                      case rel => exact ⟨rfl, by rw [← HC4.out, show (last == 46) = false from by simpa using hla, Bool.and_false, Bool.false_and], rfl⟩
                  · have q1 : ((x : Int) == 46) = false := by simp; omega
                    go_wp2_with fail
                    go_meet
                    case rel => exact ⟨rfl, by rw [← HC4.out, show (x == 46) = false from by simpa using hx, Bool.false_and, Bool.false_and], rfl⟩
                case rest =>
                  obtain ⟨rfl, rfl, rfl⟩ := hcut
                  have hv1 := HBD.out k
                  obtain ⟨v1, hv1e⟩ : ∃ u, b k = u := ⟨_, rfl⟩
                  rw [hv1e] at hv1
                  have HV1 := Lib.hid hv1e
                  have v10 := hv1.1
                  have v11 : v1 ≤ 1048576 := hv1.2
                  clear hv1 hv1e
                  go_upto_if 94 with fail
                  go_cut [12] from 12 to 136 (fun s12 wc => s12 = .int .i64 (K : Int) ∧ SEnv w Bt Br Bb Bo A n cap rd er r b wc (setF f K (pick C4 (min o3 (v1 + 1)) (o3))))
                  case first =>
                    cases C4 with
                    | false =>
                      go_wp2_with fail
                      go_meet
                      case rel => exact ⟨rfl, HE5.out⟩
                    | true =>
                      have d0 := HE5.out.out.cell h41
                      rw [setF_same] at d0
                      have d1 := HE5.out.rowb.cell (i := k) (by omega)
                      rw [HV1.out] at d1
                      have q7 : IntKind.i64.wrap (v1 + 1) = v1 + 1 := IntWalk.i64_in _ (by omega)
                      go_wp2_with fail
                      refine wp_region_T [12] (S := fun X => X.cell? ⟨Bo, K, none⟩ = some (.int .i64 (o3)) ∧ X.cell? ⟨Bb, k, none⟩ = some (.int .i64 (v1))) (by kernel_rfl) (⟨d0, d1⟩) (fun hS0 => ?_)
                      refine wpAnyT_take (i := 0) (oi := { dst := some 95, op := Op.move (Operand.tmp 11), type := 3, pos := "texts.go:45", after := #[], guard := none }) (v := ?_) rfl (by kernel_rfl) (by kernel_rfl) (by kernel_rfl) (by kernel_rfl) (fun _ _ _ h => h) (Or.inl ⟨by rfl, ?_⟩) hS0 ?_
                      rotate_left
                      · intro X hX
                        obtain ⟨x0, x1⟩ := hX
                        go_simp
                        try with_reducible rfl
                      simp only [Act.put, List.setIfInBounds_toArray, List.set_cons_zero, List.set_cons_succ, Array.toArray_toList]
                      refine wpAnyT_take (i := 1) (oi := { dst := some 96, op := Op.move (Operand.tmp 11), type := 3, pos := "texts.go:45", after := #[], guard := none }) (v := ?_) rfl (by kernel_rfl) (by kernel_rfl) (by kernel_rfl) (by kernel_rfl) (fun _ _ _ h => h) (Or.inl ⟨by rfl, ?_⟩) hS0 ?_
                      rotate_left
                      · intro X hX
                        obtain ⟨x0, x1⟩ := hX
                        go_simp
                        try with_reducible rfl
                      simp only [Act.put, List.setIfInBounds_toArray, List.set_cons_zero, List.set_cons_succ, Array.toArray_toList]
                      refine wpAnyT_take (i := 2) (oi := { dst := some 97, op := Op.indexAddr 164 (Operand.tmp 10) (Operand.tmp 96), type := 0, pos := "texts.go:45", after := #[{ on := 1, ground := Ground.data }], guard := none }) (v := ?_) rfl (by kernel_rfl) (by kernel_rfl) (by kernel_rfl) (by kernel_rfl) (fun _ _ _ h => h) (Or.inl ⟨by rfl, ?_⟩) hS0 ?_
                      rotate_left
                      · intro X hX
                        obtain ⟨x0, x1⟩ := hX
                        go_simp
                        try with_reducible rfl
                      simp only [Act.put, List.setIfInBounds_toArray, List.set_cons_zero, List.set_cons_succ, Array.toArray_toList]
                      refine wpAnyT_take (i := 3) (oi := { dst := some 98, op := Op.load 3 (Operand.tmp 97), type := 3, pos := "texts.go:45", after := #[{ on := 2, ground := Ground.data }], guard := none }) (v := ?_) rfl (by kernel_rfl) (by kernel_rfl) (by kernel_rfl) (by kernel_rfl) (fun _ _ _ h => h) (Or.inl ⟨by rfl, ?_⟩) hS0 ?_
                      rotate_left
                      · intro X hX
                        obtain ⟨x0, x1⟩ := hX
                        go_simp
                        try with_reducible rfl
                      simp only [Act.put, List.setIfInBounds_toArray, List.set_cons_zero, List.set_cons_succ, Array.toArray_toList]
                      refine wpAnyT_take (i := 4) (oi := { dst := some 99, op := Op.move (Operand.tmp 11), type := 3, pos := "texts.go:45", after := #[], guard := none }) (v := ?_) rfl (by kernel_rfl) (by kernel_rfl) (by kernel_rfl) (by kernel_rfl) (fun _ _ _ h => h) (Or.inl ⟨by rfl, ?_⟩) hS0 ?_
                      rotate_left
                      · intro X hX
                        obtain ⟨x0, x1⟩ := hX
                        go_simp
                        try with_reducible rfl
                      simp only [Act.put, List.setIfInBounds_toArray, List.set_cons_zero, List.set_cons_succ, Array.toArray_toList]
                      refine wpAnyT_take (i := 5) (oi := { dst := some 100, op := Op.binOp BinOp.sub 3 (Operand.tmp 99) (Operand.const (Value.int IntKind.i64 1)) 3, type := 3, pos := "texts.go:45", after := #[{ on := 4, ground := Ground.data }], guard := none }) (v := ?_) rfl (by kernel_rfl) (by kernel_rfl) (by kernel_rfl) (by kernel_rfl) (fun _ _ _ h => h) (Or.inl ⟨by rfl, ?_⟩) hS0 ?_
                      rotate_left
                      · intro X hX
                        obtain ⟨x0, x1⟩ := hX
                        go_simp
                        try with_reducible rfl
                      simp only [Act.put, List.setIfInBounds_toArray, List.set_cons_zero, List.set_cons_succ, Array.toArray_toList]
                      refine wpAnyT_take (i := 6) (oi := { dst := some 101, op := Op.indexAddr 164 (Operand.tmp 7) (Operand.tmp 100), type := 0, pos := "texts.go:45", after := #[{ on := 5, ground := Ground.data }], guard := none }) (v := ?_) rfl (by kernel_rfl) (by kernel_rfl) (by kernel_rfl) (by kernel_rfl) (fun _ _ _ h => h) (Or.inl ⟨by rfl, ?_⟩) hS0 ?_
                      rotate_left
                      · intro X hX
                        obtain ⟨x0, x1⟩ := hX
                        go_simp
                        try with_reducible rfl
                      simp only [Act.put, List.setIfInBounds_toArray, List.set_cons_zero, List.set_cons_succ, Array.toArray_toList]
                      refine wpAnyT_take (i := 7) (oi := { dst := some 102, op := Op.load 3 (Operand.tmp 101), type := 3, pos := "texts.go:45", after := #[{ on := 6, ground := Ground.data }], guard := none }) (v := ?_) rfl (by kernel_rfl) (by kernel_rfl) (by kernel_rfl) (by kernel_rfl) (fun _ _ _ h => h) (Or.inl ⟨by rfl, ?_⟩) hS0 ?_
                      rotate_left
                      · intro X hX
                        obtain ⟨x0, x1⟩ := hX
                        go_simp
                        try with_reducible rfl
                      simp only [Act.put, List.setIfInBounds_toArray, List.set_cons_zero, List.set_cons_succ, Array.toArray_toList]
                      refine wpAnyT_take (i := 8) (oi := { dst := some 103, op := Op.binOp BinOp.add 3 (Operand.tmp 102) (Operand.const (Value.int IntKind.i64 1)) 3, type := 3, pos := "texts.go:45", after := #[{ on := 7, ground := Ground.data }], guard := none }) (v := ?_) rfl (by kernel_rfl) (by kernel_rfl) (by kernel_rfl) (by kernel_rfl) (fun _ _ _ h => h) (Or.inl ⟨by rfl, ?_⟩) hS0 ?_
                      rotate_left
                      · intro X hX
                        obtain ⟨x0, x1⟩ := hX
                        go_simp
                        try with_reducible rfl
                      simp only [Act.put, List.setIfInBounds_toArray, List.set_cons_zero, List.set_cons_succ, Array.toArray_toList]
                      refine wpAnyT_one (i := 9) (o := { dst := some 104, op := Op.buildSlice 25 2 #[(0, Operand.tmp 98), (1, Operand.tmp 103)], type := 25, pos := "texts.go:45", after := #[{ on := 3, ground := Ground.data }, { on := 8, ground := Ground.data }], guard := none }) (by kernel_rfl) rfl (fun K hK => ?_)
                      go_simp
                      have hbq3 : Below w5.heap.size w5 (w5.alloc (.cells #[.int .i64 (o3), .int .i64 ((v1) + 1)] 3)).drew := ((Below.refl _ _).alloc (Nat.le_refl _) _).drew
                      have hnq3 : (w5.alloc (.cells #[.int .i64 (o3), .int .i64 ((v1) + 1)] 3)).drew.heap[w5.heap.size]? = some (.cells #[.int .i64 (o3), .int .i64 ((v1) + 1)] 3 (0, 0)) := Go.heap_alloc_new w5 _
                      have HQq3 := Lib.hid (HE5.out.keep hbq3)
                      have m0 := cell_later hbq3 d0
                      have m1 := cell_later hbq3 d1
                      obtain ⟨Bn, hBn⟩ : ∃ B, w5.heap.size = B := ⟨_, rfl⟩
                      rw [hBn] at hnq3 ⊢
                      clear hBn hbq3
                      generalize (w5.alloc (.cells #[.int .i64 (o3), .int .i64 ((v1) + 1)] 3)).drew = y1 at HQq3 hnq3 m0 m1 ⊢
                      refine hK.out _ _ (fun _ => ⟨m0, m1⟩) (fun hS1q => ?_)
                      have hS1 := hS1q rfl
                      clear hS1q hS0 hK K
                      refine wpAnyT_one (i := 10) (o := { dst := some 105, op := Op.call { callee := Callee.value (Operand.func 132), args := #[Operand.tmp 104], argTypes := #[25] }, type := 3, pos := "texts.go:45", after := #[{ on := 9, ground := Ground.data }], guard := none }) (by kernel_rfl) rfl (fun K hK => ?_)
                      go_simp
                      refine (min2_any Bn _ _ y1 hnq3).mono ?_
                      rintro e w' ⟨rfl, rfl⟩
                      go_wp2_with fail
                      refine hK.out _ _ (fun _ => ⟨m0, m1⟩) (fun hS2q => ?_)
                      have hS2 := hS2q rfl
                      clear hS2q hS1 hK K
                      refine wpAnyT_take (i := 11) (oi := { dst := some 106, op := Op.indexAddr 164 (Operand.tmp 10) (Operand.tmp 95), type := 0, pos := "texts.go:45", after := #[{ on := 0, ground := Ground.data }, { on := 0, ground := Ground.phase }, { on := 1, ground := Ground.phase }, { on := 2, ground := Ground.phase }, { on := 3, ground := Ground.phase }, { on := 4, ground := Ground.phase }, { on := 5, ground := Ground.phase }, { on := 6, ground := Ground.phase }, { on := 7, ground := Ground.phase }, { on := 8, ground := Ground.phase }, { on := 9, ground := Ground.phase }, { on := 10, ground := Ground.phase }], guard := none }) (v := ?_) rfl (by kernel_rfl) (by kernel_rfl) (by kernel_rfl) (by kernel_rfl) (fun _ _ _ h => h) (Or.inl ⟨by rfl, ?_⟩) hS2 ?_
                      rotate_left
                      · intro X hX
                        obtain ⟨x0, x1⟩ := hX
                        go_simp
                        try with_reducible rfl
                      simp only [Act.put, List.setIfInBounds_toArray, List.set_cons_zero, List.set_cons_succ, Array.toArray_toList]
                      have z1 := HQq3.out.out.frozen K
                      refine wpAnyT_one (i := 12) (o := { dst := none, op := Op.store 3 (Operand.tmp 106) (Operand.tmp 105), type := 0, pos := "texts.go:45", after := #[{ on := 11, ground := Ground.data }, { on := 10, ground := Ground.data }, { on := 10, ground := Ground.chain }, { on := 0, ground := Ground.phase }, { on := 1, ground := Ground.phase }, { on := 2, ground := Ground.phase }, { on := 3, ground := Ground.phase }, { on := 4, ground := Ground.phase }, { on := 5, ground := Ground.phase }, { on := 6, ground := Ground.phase }, { on := 7, ground := Ground.phase }, { on := 8, ground := Ground.phase }, { on := 9, ground := Ground.phase }, { on := 10, ground := Ground.phase }], guard := none }) (by kernel_rfl) rfl (fun K hK => ?_)
                      go_simp
                      refine hK.out _ _ (fun h => absurd h (by decide)) (fun _ => ?_)
                      clear hK K
                      refine wpAnyT_done (by kernel_rfl) ?_ _
                      clear hS2
                      have HFq3 := Lib.hid (HQq3.out.set2 h41 (min (o3) ((v1) + 1)))
                      clear z1 m0 m1 hnq3 HQq3
                      go_wp2_with fail
                      go_meet
                      case rel => exact ⟨rfl, HFq3.out⟩
                  case rest =>
                    generalize wc = w6 at hcut ⊢
                    obtain ⟨rfl, hE6⟩ := hcut
                    clear HE5

                    obtain ⟨o4, ho4⟩ : ∃ o, pick C4 (min o3 (v1 + 1)) o3 = o := ⟨_, rfl⟩
                    have hb4 := pick_bd (c := C4) (a := min o3 (v1 + 1)) (b := o3) (M := 1048577) (by omega) (by omega)
                    rw [ho4] at hE6 hb4
                    have HO4 := Lib.hid ho4
                    have HE6 := Lib.hid hE6
                    have b40 := hb4.1
                    have b41 := hb4.2
                    clear ho4 hE6 hb4 c3
                    have c3 := HE6.out.rdc
                    obtain ⟨C5, hC5⟩ : ∃ c, ((y : Int) == 32) = c := ⟨_, rfl⟩
                    have hs1 := sgnR_nn' (rd := nl rd) HR.out HBD.out last x k
                    have hfk := HF.out k (by omega)
                    obtain ⟨s1, hs1e⟩ : ∃ u, sgnR (nl rd) r b last x k = u := ⟨_, rfl⟩
                    rw [hs1e] at hs1 hfk
                    have HS1 := Lib.hid hs1e
                    have HFK := Lib.hid hfk
                    have s10 := hs1.1
                    have s11 : s1 ≤ 1048576 := hs1.2
                    clear hs1 hs1e hfk
                    go_upto_if 116 with fail
                    go_cut [12] from 12 to 136 (fun s12 wc => s12 = .int .i64 (K : Int) ∧ SEnv w Bt Br Bb Bo A n cap rd er r b wc (setF f K (pick C5 (min o4 (s1 + 1)) (o4))))
                    case first =>
                      cases C5 with
                      | false =>
                        go_wp2_with fail
                        go_meet
                        case rel => exact ⟨rfl, HE6.out⟩
                      | true =>
                        have d0 := HE6.out.out.cell h41
                        rw [setF_same] at d0
                        have d1 := HE6.out.out.cell (i := k) (by omega)
                        rw [setF_ne _ (show k ≠ K by omega), HFK.out] at d1
                        have q7 : IntKind.i64.wrap (s1 + 1) = s1 + 1 := IntWalk.i64_in _ (by omega)
                        go_wp2_with fail
                        refine wp_region_T [12] (S := fun X => X.cell? ⟨Bo, K, none⟩ = some (.int .i64 (o4)) ∧ X.cell? ⟨Bo, k, none⟩ = some (.int .i64 (s1))) (by kernel_rfl) (⟨d0, d1⟩) (fun hS0 => ?_)
                        refine wpAnyT_take (i := 0) (oi := { dst := some 117, op := Op.move (Operand.tmp 11), type := 3, pos := "texts.go:48", after := #[], guard := none }) (v := ?_) rfl (by kernel_rfl) (by kernel_rfl) (by kernel_rfl) (by kernel_rfl) (fun _ _ _ h => h) (Or.inl ⟨by rfl, ?_⟩) hS0 ?_
                        rotate_left
                        · intro X hX
                          obtain ⟨x0, x1⟩ := hX
                          go_simp
                          try with_reducible rfl
                        simp only [Act.put, List.setIfInBounds_toArray, List.set_cons_zero, List.set_cons_succ, Array.toArray_toList]
                        refine wpAnyT_take (i := 1) (oi := { dst := some 118, op := Op.move (Operand.tmp 11), type := 3, pos := "texts.go:48", after := #[], guard := none }) (v := ?_) rfl (by kernel_rfl) (by kernel_rfl) (by kernel_rfl) (by kernel_rfl) (fun _ _ _ h => h) (Or.inl ⟨by rfl, ?_⟩) hS0 ?_
                        rotate_left
                        · intro X hX
                          obtain ⟨x0, x1⟩ := hX
                          go_simp
                          try with_reducible rfl
                        simp only [Act.put, List.setIfInBounds_toArray, List.set_cons_zero, List.set_cons_succ, Array.toArray_toList]
                        refine wpAnyT_take (i := 2) (oi := { dst := some 119, op := Op.indexAddr 164 (Operand.tmp 10) (Operand.tmp 118), type := 0, pos := "texts.go:48", after := #[{ on := 1, ground := Ground.data }], guard := none }) (v := ?_) rfl (by kernel_rfl) (by kernel_rfl) (by kernel_rfl) (by kernel_rfl) (fun _ _ _ h => h) (Or.inl ⟨by rfl, ?_⟩) hS0 ?_
                        rotate_left
                        · intro X hX
                          obtain ⟨x0, x1⟩ := hX
                          go_simp
                          try with_reducible rfl
                        simp only [Act.put, List.setIfInBounds_toArray, List.set_cons_zero, List.set_cons_succ, Array.toArray_toList]
                        refine wpAnyT_take (i := 3) (oi := { dst := some 120, op := Op.load 3 (Operand.tmp 119), type := 3, pos := "texts.go:48", after := #[{ on := 2, ground := Ground.data }], guard := none }) (v := ?_) rfl (by kernel_rfl) (by kernel_rfl) (by kernel_rfl) (by kernel_rfl) (fun _ _ _ h => h) (Or.inl ⟨by rfl, ?_⟩) hS0 ?_
                        rotate_left
                        · intro X hX
                          obtain ⟨x0, x1⟩ := hX
                          go_simp
                          try with_reducible rfl
                        simp only [Act.put, List.setIfInBounds_toArray, List.set_cons_zero, List.set_cons_succ, Array.toArray_toList]
                        refine wpAnyT_take (i := 4) (oi := { dst := some 121, op := Op.move (Operand.tmp 11), type := 3, pos := "texts.go:48", after := #[], guard := none }) (v := ?_) rfl (by kernel_rfl) (by kernel_rfl) (by kernel_rfl) (by kernel_rfl) (fun _ _ _ h => h) (Or.inl ⟨by rfl, ?_⟩) hS0 ?_
                        rotate_left
                        · intro X hX
                          obtain ⟨x0, x1⟩ := hX
                          go_simp
                          try with_reducible rfl
                        simp only [Act.put, List.setIfInBounds_toArray, List.set_cons_zero, List.set_cons_succ, Array.toArray_toList]
                        refine wpAnyT_take (i := 5) (oi := { dst := some 122, op := Op.binOp BinOp.sub 3 (Operand.tmp 121) (Operand.const (Value.int IntKind.i64 1)) 3, type := 3, pos := "texts.go:48", after := #[{ on := 4, ground := Ground.data }], guard := none }) (v := ?_) rfl (by kernel_rfl) (by kernel_rfl) (by kernel_rfl) (by kernel_rfl) (fun _ _ _ h => h) (Or.inl ⟨by rfl, ?_⟩) hS0 ?_
                        rotate_left
                        · intro X hX
                          obtain ⟨x0, x1⟩ := hX
                          go_simp
                          try with_reducible rfl
                        simp only [Act.put, List.setIfInBounds_toArray, List.set_cons_zero, List.set_cons_succ, Array.toArray_toList]
                        refine wpAnyT_take (i := 6) (oi := { dst := some 123, op := Op.indexAddr 164 (Operand.tmp 10) (Operand.tmp 122), type := 0, pos := "texts.go:48", after := #[{ on := 5, ground := Ground.data }], guard := none }) (v := ?_) rfl (by kernel_rfl) (by kernel_rfl) (by kernel_rfl) (by kernel_rfl) (fun _ _ _ h => h) (Or.inl ⟨by rfl, ?_⟩) hS0 ?_
                        rotate_left
                        · intro X hX
                          obtain ⟨x0, x1⟩ := hX
                          go_simp
                          try with_reducible rfl
                        simp only [Act.put, List.setIfInBounds_toArray, List.set_cons_zero, List.set_cons_succ, Array.toArray_toList]
                        refine wpAnyT_take (i := 7) (oi := { dst := some 124, op := Op.load 3 (Operand.tmp 123), type := 3, pos := "texts.go:48", after := #[{ on := 6, ground := Ground.data }], guard := none }) (v := ?_) rfl (by kernel_rfl) (by kernel_rfl) (by kernel_rfl) (by kernel_rfl) (fun _ _ _ h => h) (Or.inl ⟨by rfl, ?_⟩) hS0 ?_
                        rotate_left
                        · intro X hX
                          obtain ⟨x0, x1⟩ := hX
                          go_simp
                          try with_reducible rfl
                        simp only [Act.put, List.setIfInBounds_toArray, List.set_cons_zero, List.set_cons_succ, Array.toArray_toList]
                        refine wpAnyT_take (i := 8) (oi := { dst := some 125, op := Op.binOp BinOp.add 3 (Operand.tmp 124) (Operand.const (Value.int IntKind.i64 1)) 3, type := 3, pos := "texts.go:48", after := #[{ on := 7, ground := Ground.data }], guard := none }) (v := ?_) rfl (by kernel_rfl) (by kernel_rfl) (by kernel_rfl) (by kernel_rfl) (fun _ _ _ h => h) (Or.inl ⟨by rfl, ?_⟩) hS0 ?_
                        rotate_left
                        · intro X hX
                          obtain ⟨x0, x1⟩ := hX
                          go_simp
                          try with_reducible rfl
                        simp only [Act.put, List.setIfInBounds_toArray, List.set_cons_zero, List.set_cons_succ, Array.toArray_toList]
                        refine wpAnyT_one (i := 9) (o := { dst := some 126, op := Op.buildSlice 25 2 #[(0, Operand.tmp 120), (1, Operand.tmp 125)], type := 25, pos := "texts.go:48", after := #[{ on := 3, ground := Ground.data }, { on := 8, ground := Ground.data }], guard := none }) (by kernel_rfl) rfl (fun K hK => ?_)
                        go_simp
                        have hbq4 : Below w6.heap.size w6 (w6.alloc (.cells #[.int .i64 (o4), .int .i64 ((s1) + 1)] 3)).drew := ((Below.refl _ _).alloc (Nat.le_refl _) _).drew
                        have hnq4 : (w6.alloc (.cells #[.int .i64 (o4), .int .i64 ((s1) + 1)] 3)).drew.heap[w6.heap.size]? = some (.cells #[.int .i64 (o4), .int .i64 ((s1) + 1)] 3 (0, 0)) := Go.heap_alloc_new w6 _
                        have HQq4 := Lib.hid (HE6.out.keep hbq4)
                        have m0 := cell_later hbq4 d0
                        have m1 := cell_later hbq4 d1
                        obtain ⟨Bn, hBn⟩ : ∃ B, w6.heap.size = B := ⟨_, rfl⟩
                        rw [hBn] at hnq4 ⊢
                        clear hBn hbq4
                        generalize (w6.alloc (.cells #[.int .i64 (o4), .int .i64 ((s1) + 1)] 3)).drew = y1 at HQq4 hnq4 m0 m1 ⊢
                        refine hK.out _ _ (fun _ => ⟨m0, m1⟩) (fun hS1q => ?_)
                        have hS1 := hS1q rfl
                        clear hS1q hS0 hK K
                        refine wpAnyT_one (i := 10) (o := { dst := some 127, op := Op.call { callee := Callee.value (Operand.func 132), args := #[Operand.tmp 126], argTypes := #[25] }, type := 3, pos := "texts.go:48", after := #[{ on := 9, ground := Ground.data }], guard := none }) (by kernel_rfl) rfl (fun K hK => ?_)
                        go_simp
                        refine (min2_any Bn _ _ y1 hnq4).mono ?_
                        rintro e w' ⟨rfl, rfl⟩
                        go_wp2_with fail
                        refine hK.out _ _ (fun _ => ⟨m0, m1⟩) (fun hS2q => ?_)
                        have hS2 := hS2q rfl
                        clear hS2q hS1 hK K
                        refine wpAnyT_take (i := 11) (oi := { dst := some 128, op := Op.indexAddr 164 (Operand.tmp 10) (Operand.tmp 117), type := 0, pos := "texts.go:48", after := #[{ on := 0, ground := Ground.data }, { on := 0, ground := Ground.phase }, { on := 1, ground := Ground.phase }, { on := 2, ground := Ground.phase }, { on := 3, ground := Ground.phase }, { on := 4, ground := Ground.phase }, { on := 5, ground := Ground.phase }, { on := 6, ground := Ground.phase }, { on := 7, ground := Ground.phase }, { on := 8, ground := Ground.phase }, { on := 9, ground := Ground.phase }, { on := 10, ground := Ground.phase }], guard := none }) (v := ?_) rfl (by kernel_rfl) (by kernel_rfl) (by kernel_rfl) (by kernel_rfl) (fun _ _ _ h => h) (Or.inl ⟨by rfl, ?_⟩) hS2 ?_
                        rotate_left
                        · intro X hX
                          obtain ⟨x0, x1⟩ := hX
                          go_simp
                          try with_reducible rfl
                        simp only [Act.put, List.setIfInBounds_toArray, List.set_cons_zero, List.set_cons_succ, Array.toArray_toList]
                        have z1 := HQq4.out.out.frozen K
                        refine wpAnyT_one (i := 12) (o := { dst := none, op := Op.store 3 (Operand.tmp 128) (Operand.tmp 127), type := 0, pos := "texts.go:48", after := #[{ on := 11, ground := Ground.data }, { on := 10, ground := Ground.data }, { on := 10, ground := Ground.chain }, { on := 0, ground := Ground.phase }, { on := 1, ground := Ground.phase }, { on := 2, ground := Ground.phase }, { on := 3, ground := Ground.phase }, { on := 4, ground := Ground.phase }, { on := 5, ground := Ground.phase }, { on := 6, ground := Ground.phase }, { on := 7, ground := Ground.phase }, { on := 8, ground := Ground.phase }, { on := 9, ground := Ground.phase }, { on := 10, ground := Ground.phase }], guard := none }) (by kernel_rfl) rfl (fun K hK => ?_)
                        go_simp
                        refine hK.out _ _ (fun h => absurd h (by decide)) (fun _ => ?_)
                        clear hK K
                        refine wpAnyT_done (by kernel_rfl) ?_ _
                        clear hS2
                        have HFq4 := Lib.hid (HQq4.out.set2 h41 (min (o4) ((s1) + 1)))
                        clear z1 m0 m1 hnq4 HQq4
                        go_wp2_with fail
                        go_meet
                        case rel => exact ⟨rfl, HFq4.out⟩
                    case rest =>
                      generalize wc = w7 at hcut ⊢
                      obtain ⟨rfl, hE7⟩ := hcut
                      clear HE6

                      obtain ⟨o5, ho5⟩ : ∃ o, pick C5 (min o4 (s1 + 1)) o4 = o := ⟨_, rfl⟩
                      have hb5 := pick_bd (c := C5) (a := min o4 (s1 + 1)) (b := o4) (M := 1048577) (by omega) (by omega)
                      rw [ho5] at hE7 hb5
                      have HO5 := Lib.hid ho5
                      have HE7 := Lib.hid hE7
                      have HC5 := Lib.hid hC5
                      have b50 := hb5.1
                      have b51 := hb5.2
                      clear ho5 hE7 hb5 hC5 c3
                      have z1 := HE7.out.out.frozen K
                      have z2 := HE7.out.out.cell h41
                      rw [setF_same] at z2
                      have hb9 : Below w7.heap.size w7 (w7.alloc (.cells #[.int .i64 (o5), .int .i64 1048576] 3)) := (Below.refl _ _).alloc (Nat.le_refl _) _
                      have hn9 := Go.heap_alloc_new w7 (.cells #[.int .i64 (o5), .int .i64 1048576] 3)
                      have HM9 := Lib.hid (min2_any w7.heap.size (o5) 1048576 (w7.alloc (.cells #[.int .i64 (o5), .int .i64 1048576] 3)) hn9)
                      have y1 := (HE7.out.keep hb9).out.frozen K
                      have y2 := (HE7.out.keep hb9).out.cell h41
                      have HE9 := Lib.hid ((HE7.out.keep hb9).set2 h41 (min (o5) 1048576))
                      have HNEW := Lib.hid (show sgnR (nl rd) r b last x K = min (o5) 1048576 from (by
                        rw [HK.out]
                        refine sgnR_stage (c2 := c2) (c3 := C3) (c4 := C4) (c5 := C5) (o2 := o2) (o3 := o3) (o4 := o4) (o5 := o5) (by rw [HNL.out]; omega) ?_ ?_ ?_ ?_ ?_ ?_ ?_ ?_
                        · rw [← HC2.out, HRD.out, beq_iff_eq]; omega
                        · rw [← HC3.out, Bool.and_eq_true, Bool.and_eq_true, decide_eq_true_eq, beq_iff_eq]
                          constructor
                          · rintro ⟨⟨a1, a2⟩, a3⟩
                            rw [show K = k - 1 + 2 by omega] at a3
                            have a4 := (ext_two (by omega)).1 a3
                            rw [show k - 1 + 1 = k by omega] at a4
                            exact ⟨by omega, a2, a4.1, a4.2⟩
                          · rintro ⟨a1, a2, a3, a4⟩
                            refine ⟨⟨by omega, a2⟩, ?_⟩
                            rw [show K = k - 1 + 2 by omega]
                            exact (ext_two (by omega)).2 ⟨a3, by rw [show k - 1 + 1 = k by omega]; exact a4⟩
                        · rw [← HC4.out, Bool.and_eq_true, Bool.and_eq_true, beq_iff_eq, beq_iff_eq, beq_iff_eq, HRD.out, and_assoc]
                        · rw [← HC5.out, HRD.out, beq_iff_eq]; omega
                        · rw [← HK.out, HU0.out, HU1.out]; exact HO2.out
                        · rw [HU2.out]; exact HO3.out
                        · rw [HV1.out]; exact HO4.out
                        · rw [HS1.out]; exact HO5.out))
                      clear hb9 hn9
                      go_wp2_with fail
                      refine HM9.out.mono ?_
                      rintro e w' ⟨rfl, rfl⟩
                      go_wp2_with fail
                      go_roundw
                      case rel => exact ⟨K + 1, _, by omega, by go_num, HE9.out, fun j hj => by
                        by_cases e : j = K
                        · rw [e, setF_same, HNEW.out]
                        · rw [setF_ne _ e]; exact HF.out j (by omega)⟩
                      case measure => simp [intOf]; omega
    · have h41' : decide ((K : Int) < 41) = false := by simp; omega
      obtain rfl : K = 41 := by omega
      have hR5 : RowN wr Bo (sgnR (nl rd) r b last x) := hE.out.congr fun i hi => (HF.out i (by omega)).symm
      obtain ⟨cs, hcb, hcs⟩ := hR5
      have HCB := Lib.hid hcb
      have HCS := Lib.hid hcs
      have hq := heap_setRow_same (gs := cs) hcb
      have hbs : Below w.heap.size w (wr.setRow Bo cs) := ⟨hE.below.os, hE.below.tape, hE.below.output, by unfold World.setRow; simpa using hE.below.size, fun j hj => (heap_setRow wr cs (by have := hE.lo; omega)).trans (hE.below.block j hj)⟩
      have HQ := Lib.hid hq
      have HBS := Lib.hid hbs
      clear hcb hcs hE hq hbs
      go_wp2_with (first | (refine wpList_load_row rfl 164 _ rfl _ rfl 164 cs _ _ HCB.out Try.underlying164 rfl HCS.out.info ?_) | (refine wpList_store_row rfl 164 _ _ rfl Bo cs rfl rfl 164 cs HCB.out HCS.out.info rfl HCS.out.one ?_))
      exact bodyPost_ret (v := .agg cs) (results_cell_row rfl _ _ Bo 164 cs _ _ rfl HQ.out Try.underlying164 rfl HCS.out.info) rfl ⟨cs, rfl, HCS.out, HBS.out⟩
end Go.Proofs.Ytkloaeaepjoijaa

/-
  rooms: those of all angles with an error.
-/
import Derived.Test.YtkloaeaepjoijaaCan
import Derived.Laws.Tables
import Derived.Deep.Cut
import Derived.Deep.CutRange
set_option linter.all false
namespace Go.Proofs.Ytkloaeaepjoijaa
open Go.RowKit Go.WalkArith

/-- The ends of the room of an angle; some readings can be left out. -/
def roomLo (l : List Ang) (err : Int) (out : List Int) (i : Int) : Int := match l[i.toNat]? with | none => 0 | some a => if out.contains i then 0 else max 0 (a.r - err * a.g)
def roomHi (l : List Ang) (err : Int) (out : List Int) (i : Int) : Int := match l[i.toNat]? with | none => 0 | some a => if out.contains i then 40 else min 40 (a.r + err * a.g)

theorem roomLo_at {l : List Ang} {i : Nat} (h : i < l.length) (err : Int) (out : List Int) : roomLo l err out i = if out.contains (i : Int) then 0 else max 0 (l[i].r - err * l[i].g) := by simp [roomLo, h]
theorem roomHi_at {l : List Ang} {i : Nat} (h : i < l.length) (err : Int) (out : List Int) : roomHi l err out i = if out.contains (i : Int) then 40 else min 40 (l[i].r + err * l[i].g) := by simp [roomHi, h]

theorem rooms_ok {l : List Ang} {T C : Int} (hok : NetOk l T C) {err : Int} (h0 : 0 ≤ err) (out : List Int) : RoomsOk l.length (roomLo l err out) (roomHi l err out) := by
  have key : ∀ i : Nat, (hi : i < l.length) → 0 ≤ l[i].r ∧ l[i].r ≤ 40 ∧ 0 ≤ err * l[i].g := fun i hi => by
    have := hok.ang l[i] (List.getElem_mem hi)
    exact ⟨by omega, by omega, Int.mul_nonneg h0 (by omega)⟩
  refine ⟨fun i hi => ?_, fun i hi => ?_, fun i hi => ?_⟩
  · rw [roomLo_at hi]; split <;> omega
  · rw [roomLo_at hi, roomHi_at hi]; have := key i hi; split <;> omega
  · rw [roomHi_at hi]; split <;> omega

/-- Block B is an array of rooms. -/
def RoomsAt (W : World) (B : Nat) (lo hi : Int → Int) : Prop := ∃ rs, W.heap[B]? = some (.cells rs 109 (0, 0)) ∧ RoomsV rs lo hi

theorem RoomsAt.of_block {W W' : World} {B : Nat} {lo hi : Int → Int} (h : RoomsAt W B lo hi) (hb : W'.heap[B]? = W.heap[B]?) : RoomsAt W' B lo hi := by
  obtain ⟨rs, h1, h2⟩ := h
  exact ⟨rs, hb.trans h1, h2⟩
theorem RoomsV.congr {rs : Array Value} {lo hi lo' hi' : Int → Int} (h : RoomsV rs lo hi) (h1 : ∀ i : Nat, i < 12 → lo' i = lo i) (h2 : ∀ i : Nat, i < 12 → hi' i = hi i) : RoomsV rs lo' hi' :=
  ⟨h.size, fun i hi => by rw [h1 i hi]; exact h.lo i hi, fun i hi => by rw [h2 i hi]; exact h.hi i hi⟩
theorem RoomsAt.congr {W : World} {B : Nat} {lo hi lo' hi' : Int → Int} (h : RoomsAt W B lo hi) (h1 : ∀ i : Nat, i < 12 → lo' i = lo i) (h2 : ∀ i : Nat, i < 12 → hi' i = hi i) : RoomsAt W B lo' hi' := by
  obtain ⟨rs, hb, h⟩ := h
  exact ⟨rs, hb, h.congr h1 h2⟩
theorem RoomsAt.cells {W : World} {B : Nat} {lo hi : Int → Int} (h : RoomsAt W B lo hi) {i : Nat} (hi' : i < 12) : W.cell? ⟨B, i * 2, none⟩ = some (.int .i64 (lo i)) ∧ W.cell? ⟨B, i * 2 + 1, none⟩ = some (.int .i64 (hi i)) := by
  obtain ⟨rs, hb, hr⟩ := h
  exact ⟨by simp [World.cell?, hb, hr.lo i hi'], by simp [World.cell?, hb, hr.hi i hi']⟩
theorem RoomsAt.frozen {W : World} {B : Nat} {lo hi : Int → Int} (h : RoomsAt W B lo hi) (i : Nat) : W.frozen? ⟨B, i, none⟩ = false := by
  obtain ⟨rs, hb, hr⟩ := h
  simp [World.frozen?, hb]
theorem RoomsAt.lt {W : World} {B : Nat} {lo hi : Int → Int} (h : RoomsAt W B lo hi) : B < W.heap.size := by
  obtain ⟨rs, hb, hr⟩ := h
  exact (Array.getElem?_eq_some_iff.1 hb).1

theorem RoomsV.set {rs : Array Value} {lo hi : Int → Int} (h : RoomsV rs lo hi) {i : Nat} (hi' : i < 12) (x y : Int) : RoomsV ((rs.setIfInBounds (i * 2) (.int .i64 x)).setIfInBounds (i * 2 + 1) (.int .i64 y)) (updG lo i x) (updG hi i y) := by
  have hs : rs.size = 24 := by
    have h1 := h.size
    have h2 : (Try.prog.info? 109).map (·.size) = some 24 := by kernel_rfl
    rw [h2] at h1
    simpa using h1.symm
  refine ⟨by rw [Array.size_setIfInBounds, Array.size_setIfInBounds]; exact h.size, fun j hj => ?_, fun j hj => ?_⟩
  · rw [Array.getElem?_setIfInBounds, if_neg (by omega), Array.getElem?_setIfInBounds]
    unfold updG
    by_cases e : i = j
    · subst e; rw [if_pos rfl, if_pos (by omega), if_pos rfl]
    · rw [if_neg (by omega), if_neg (by omega)]; exact h.lo j hj
  · rw [Array.getElem?_setIfInBounds]
    unfold updG
    by_cases e : i = j
    · subst e; rw [if_pos rfl, if_pos (by simp; omega), if_pos rfl]
    · rw [if_neg (by omega), Array.getElem?_setIfInBounds, if_neg (by omega), if_neg (by omega)]; exact h.hi j hj

theorem RoomsAt.set {W : World} {B : Nat} {lo hi : Int → Int} (h : RoomsAt W B lo hi) {i : Nat} (hi' : i < 12) (x y : Int) : RoomsAt ((W.setCell ⟨B, i * 2, none⟩ (.int .i64 x)).setCell ⟨B, i * 2 + 1, none⟩ (.int .i64 y)) B (updG lo i x) (updG hi i y) := by
  obtain ⟨rs, hb, hr⟩ := h
  exact ⟨_, by simp [World.setCell, Array.getElem?_modify, hb], hr.set hi' x y⟩

def zeros24 : Array Value := #[.int .i64 0, .int .i64 0, .int .i64 0, .int .i64 0, .int .i64 0, .int .i64 0, .int .i64 0, .int .i64 0, .int .i64 0, .int .i64 0, .int .i64 0, .int .i64 0, .int .i64 0, .int .i64 0, .int .i64 0, .int .i64 0, .int .i64 0, .int .i64 0, .int .i64 0, .int .i64 0, .int .i64 0, .int .i64 0, .int .i64 0, .int .i64 0]

theorem zeros24_at (i : Nat) (h : i < 24) : zeros24[i]? = some (.int .i64 0) := by
  have h1 : zeros24 = Array.replicate 24 (.int .i64 0) := by rfl
  rw [h1]; simp [h]

theorem zeros24_rooms : RoomsV zeros24 (fun _ => 0) (fun _ => 0) := ⟨by kernel_rfl, fun i hi => zeros24_at _ (by omega), fun i hi => zeros24_at _ (by omega)⟩

/-- Rooms of the first k angles. -/
def partLo (l : List Ang) (err : Int) (out : List Int) (k : Nat) (i : Int) : Int := if i < (k : Int) then roomLo l err out i else 0
def partHi (l : List Ang) (err : Int) (out : List Int) (k : Nat) (i : Int) : Int := if i < (k : Int) then roomHi l err out i else 0

theorem partLo_out {l : List Ang} {err : Int} {out : List Int} {k : Nat} {a : Ang} {M : Int} (hc : out.contains (k : Int) = false) (hk : k < l.length) (ha : l[k] = a) (hM : max 0 (a.r - err * a.g) = M) (i : Nat) : partLo l err out (k + 1) i = updG (partLo l err out k) k M i := by
  unfold updG
  by_cases e : (i : Int) = k
  · have : i = k := by omega
    subst this
    rw [if_pos rfl]; unfold partLo; rw [if_pos (by omega), roomLo_at hk, hc, ha, ← hM]; rfl
  · rw [if_neg e]; unfold partLo; by_cases h : (i : Int) < k
    · rw [if_pos h, if_pos (by omega)]
    · rw [if_neg h, if_neg (by omega)]
theorem partHi_out {l : List Ang} {err : Int} {out : List Int} {k : Nat} {a : Ang} {M : Int} (hc : out.contains (k : Int) = false) (hk : k < l.length) (ha : l[k] = a) (hM : min 40 (a.r + err * a.g) = M) (i : Nat) : partHi l err out (k + 1) i = updG (partHi l err out k) k M i := by
  unfold updG
  by_cases e : (i : Int) = k
  · have : i = k := by omega
    subst this
    rw [if_pos rfl]; unfold partHi; rw [if_pos (by omega), roomHi_at hk, hc, ha, ← hM]; rfl
  · rw [if_neg e]; unfold partHi; by_cases h : (i : Int) < k
    · rw [if_pos h, if_pos (by omega)]
    · rw [if_neg h, if_neg (by omega)]
theorem partLo_in {l : List Ang} {err : Int} {out : List Int} {k : Nat} {x : Int} (hc : out.contains (k : Int) = true) (hk : k < l.length) (i : Nat) : partLo l err out (k + 1) i = updG (updG (partLo l err out k) k x) k 0 i := by
  unfold updG
  by_cases e : (i : Int) = k
  · have : i = k := by omega
    subst this
    rw [if_pos rfl]; unfold partLo; rw [if_pos (by omega), roomLo_at hk, hc]; rfl
  · rw [if_neg e, if_neg e]; unfold partLo; by_cases h : (i : Int) < k
    · rw [if_pos h, if_pos (by omega)]
    · rw [if_neg h, if_neg (by omega)]
theorem partHi_in {l : List Ang} {err : Int} {out : List Int} {k : Nat} {x : Int} (hc : out.contains (k : Int) = true) (hk : k < l.length) (i : Nat) : partHi l err out (k + 1) i = updG (updG (partHi l err out k) k x) k 40 i := by
  unfold updG
  by_cases e : (i : Int) = k
  · have : i = k := by omega
    subst this
    rw [if_pos rfl]; unfold partHi; rw [if_pos (by omega), roomHi_at hk, hc]; rfl
  · rw [if_neg e, if_neg e]; unfold partHi; by_cases h : (i : Int) < k
    · rw [if_pos h, if_pos (by omega)]
    · rw [if_neg h, if_neg (by omega)]

theorem part_allLo {l : List Ang} {err : Int} {out : List Int} {n : Nat} (h : l.length = n) (i : Nat) : roomLo l err out i = partLo l err out n i := by
  unfold partLo
  split
  · rfl
  · rename_i h1; simp [roomLo, List.getElem?_eq_none (show l.length ≤ i by omega)]
theorem part_allHi {l : List Ang} {err : Int} {out : List Int} {n : Nat} (h : l.length = n) (i : Nat) : roomHi l err out i = partHi l err out n i := by
  unfold partHi
  split
  · rfl
  · rename_i h1; simp [roomHi, List.getElem?_eq_none (show l.length ≤ i by omega)]

theorem RoomsV.size24 {rs : Array Value} {lo hi : Int → Int} (h : RoomsV rs lo hi) : rs.size = 24 := by
  have h1 := h.size
  have h2 : (Try.prog.info? 109).map (·.size) = some 24 := by kernel_rfl
  rw [h2] at h1
  simpa using h1.symm

theorem roomsV_one {rs : Array Value} {lo hi : Int → Int} (h : RoomsV rs lo hi) : rs.all (·.oneCell') = true := by
  rw [Array.all_eq_true]
  intro i hi'
  have hs := h.size24
  rcases Nat.mod_two_eq_zero_or_one i with e | e
  · have := h.lo (i / 2) (by omega)
    rw [show i / 2 * 2 = i by omega, Array.getElem?_eq_getElem hi'] at this
    rw [Option.some.inj this]; rfl
  · have := h.hi (i / 2) (by omega)
    rw [show i / 2 * 2 + 1 = i by omega, Array.getElem?_eq_getElem hi'] at this
    rw [Option.some.inj this]; rfl

def RoomsRel (l : List Ang) (err : Int) (out : List Int) (n : Nat) (w : World) (Bn Br : Nat) (net : Obj) (i : Value) (wr : World) : Prop :=
  ∃ k : Nat, k ≤ n ∧ i = .int .i64 k ∧ RoomsAt wr Br (partLo l err out k) (partHi l err out k) ∧ wr.heap[Bn]? = some net ∧ Below w.heap.size w wr

set_option maxRecDepth 100000 in
set_option maxHeartbeats 4000000 in
theorem rooms_any (b o n cap : Nat) (T C : Int) (l : List Ang) (err : Int) (ov : Value) (out : List Int) (w : World) (hl : l.length = n) (hok : NetOk l T C) (hA : AngsAt w (some ⟨b, o, none⟩) l) (he0 : 0 ≤ err) (he1 : err ≤ 40) (hov : IntsAt w ov out) (hon : out.length ≤ 100) :
    Calls Try.prog 67 #[.agg #[.slice (some ⟨b, o, none⟩) n cap, .int .i64 T, .int .i64 C], .int .i64 err, ov] w fun e w' => ∃ rs, e = .returned (.agg rs) ∧ RoomsV rs (roomLo l err out) (roomHi l err out) ∧ Below w.heap.size w w' := by
  have HO := Lib.hid hok
  have HL := Lib.hid hl
  have HA := Lib.hid hA
  have HV := Lib.hid hov
  clear hok hl hA hov
  have hst : RoomsAt ((w.alloc (.cells #[.slice (some ⟨b, o, none⟩) n cap, .int .i64 T, .int .i64 C] 33)).alloc (.cells zeros24 109)) (w.heap.size + 1) (fun _ => 0) (fun _ => 0) := ⟨zeros24, heap_alloc2 _ _ _, zeros24_rooms⟩
  have hnt : ((w.alloc (.cells #[.slice (some ⟨b, o, none⟩) n cap, .int .i64 T, .int .i64 C] 33)).alloc (.cells zeros24 109)).heap[w.heap.size]? = some (.cells #[.slice (some ⟨b, o, none⟩) n cap, .int .i64 T, .int .i64 C] 33 (0, 0)) := (Below.heap_alloc _ _ _ (by simp)).trans (heap_new_at _ _ _ rfl)
  have hB0 : Below w.heap.size w ((w.alloc (.cells #[.slice (some ⟨b, o, none⟩) n cap, .int .i64 T, .int .i64 C] 33)).alloc (.cells zeros24 109)) := ((Below.refl _ _).alloc (Nat.le_refl _) _).alloc (by simp) _
  have HST := Lib.hid hst
  have HNT := Lib.hid hnt
  have HB0 := Lib.hid hB0
  clear hst hnt hB0
  unfold zeros24 at HST HNT HB0
  go_enter Try.func67, Try.ntmps67
  go_wp2_with fail
  generalize (w.alloc (.cells #[.slice (some ⟨b, o, none⟩) n cap, .int .i64 T, .int .i64 C] 33)).alloc (.cells #[.int .i64 0, .int .i64 0, .int .i64 0, .int .i64 0, .int .i64 0, .int .i64 0, .int .i64 0, .int .i64 0, .int .i64 0, .int .i64 0, .int .i64 0, .int .i64 0, .int .i64 0, .int .i64 0, .int .i64 0, .int .i64 0, .int .i64 0, .int .i64 0, .int .i64 0, .int .i64 0, .int .i64 0, .int .i64 0, .int .i64 0, .int .i64 0] 109) = W1 at HST HNT HB0 ⊢
  obtain ⟨Br, hBr⟩ : ∃ Br, w.heap.size + 1 = Br := ⟨_, rfl⟩
  obtain ⟨Bn, hBn⟩ : ∃ Bn, w.heap.size = Bn := ⟨_, rfl⟩
  have hn1 : w.heap.size ≤ Bn := by omega
  have hn2 : Bn < Br := by omega
  rw [hBr] at HST ⊢
  rw [hBn] at HNT ⊢
  clear hBr hBn
  go_loopw [13] (RoomsRel l err out n w Bn Br (.cells #[.slice (some ⟨b, o, none⟩) n cap, .int .i64 T, .int .i64 C] 33 (0, 0))) (fun i _ => n - (intOf i).toNat)
  case atStart => exact ⟨0, by omega, rfl, HST.out.congr (fun i hi => by unfold partLo; rw [if_neg (by omega)]) (fun i hi => by unfold partHi; rw [if_neg (by omega)]), HNT.out, HB0.out⟩
  case round =>
    clear HST HNT HB0
    obtain ⟨k, hk, rfl, hR, hN, hB⟩ := hrel
    by_cases hlt : k < n
    · have hlt' : decide ((k : Int) < (n : Int)) = true := by simpa using hlt
      have hlk : k < l.length := by rw [HL.out]; exact hlt
      have hn12 : n ≤ 12 := by rw [← HL.out]; exact HO.out.len
      obtain ⟨b', o', hAe, hAs⟩ := HA.out.resolve_left (fun h => by rw [h] at hlk; simp at hlk)
      obtain ⟨rfl, rfl⟩ : b = b' ∧ o = o' := by simpa using hAe
      have hak := hAs k hlk
      have hbl := World.block_lt_of_cell? w _ hak.1
      have hcB := fun i => hB.cell (p := ⟨b, i, none⟩) hbl
      have ak0 := (hcB _).trans hak.1
      have ak1 := (hcB _).trans hak.2.1
      have ak2 := (hcB _).trans hak.2.2.1
      have ak3 := (hcB _).trans hak.2.2.2
      have han := HO.out.ang l[k] (List.getElem_mem hlk)
      obtain ⟨a, ha⟩ : ∃ a, l[k] = a := ⟨_, rfl⟩
      rw [ha] at ak0 ak1 ak2 ak3 han
      have hm0 : 0 ≤ err * a.g := Int.mul_nonneg he0 (by omega)
      have hm1 : err * a.g ≤ 120 := by
        have : err * a.g ≤ 40 * a.g := Int.mul_le_mul_of_nonneg_right he1 (by omega)
        omega
      have hRN := hR.lt
      have hneR : Br ≠ wr.heap.size := by omega
      have HRR := Lib.hid hR
      have HNN := Lib.hid hN
      have HBB := Lib.hid hB
      have HAK := Lib.hid ha
      clear hR hN hB ha hcB hak hAs hAe hbl
      have i1 : (0 : Int) ≤ (k : Int) := by omega
      have i2 : (k : Int) < 12 := by omega
      obtain ⟨wid, hwid⟩ : ∃ wid, err * a.g = wid := ⟨_, rfl⟩
      go_wp2_with fail
      have hblk := Go.heap_alloc_new wr (.cells #[.int .i64 a.t, .int .i64 a.c, .int .i64 a.r, .int .i64 a.g] 104)
      have hBw : Below wr.heap.size wr (wr.alloc (.cells #[.int .i64 a.t, .int .i64 a.c, .int .i64 a.r, .int .i64 a.g] 104)) := (Below.refl _ _).alloc (Nat.le_refl _) _
      have hszw : wr.heap.size < (wr.alloc (.cells #[.int .i64 a.t, .int .i64 a.c, .int .i64 a.r, .int .i64 a.g] 104)).heap.size := by simp
      generalize wr.alloc (.cells #[.int .i64 a.t, .int .i64 a.c, .int .i64 a.r, .int .i64 a.g] 104) = w2 at hblk hBw hszw ⊢
      obtain ⟨Ba, hBa⟩ : ∃ Ba, wr.heap.size = Ba := ⟨_, rfl⟩
      rw [hBa] at hblk hszw ⊢
      have hne : Ba ≠ Br := by omega
      have hne' : Br ≠ Ba := by omega
      have hbn := (Array.getElem?_eq_some_iff.1 HNN.out).1
      have hR2 := HRR.out.of_block (hBw.block Br (by omega))
      have hN2 := (hBw.block Bn (by omega)).trans HNN.out
      have hB2 : Below w.heap.size w w2 := HBB.out.trans (hBw.mono HBB.out.size)
      have a2 : w2.cell? ⟨Ba, 2, none⟩ = some (.int .i64 a.r) := by simp [World.cell?, hblk]
      have r0 := (hR2.cells (i := k) (by omega)).1
      have r1 := (hR2.cells (i := k) (by omega)).2
      have z0 := hR2.frozen (k * 2)
      have z1 := hR2.frozen (k * 2 + 1)
      have lR := hR2.lt
      have lN : Bn < w2.heap.size := (Array.getElem?_eq_some_iff.1 hN2).1
      have HR2 := Lib.hid hR2
      have HN2 := Lib.hid hN2
      have HB2 := Lib.hid hB2
      have HW := Lib.hid hwid
      have wp1 : IntKind.i64.wrap (a.r - wid) = a.r - wid := IntWalk.i64_in _ (by omega)
      have wp2 : IntKind.i64.wrap (a.r + wid) = a.r + wid := IntWalk.i64_in _ (by omega)
      obtain ⟨M, hM⟩ : ∃ M, max 0 (a.r - wid) = M := ⟨_, rfl⟩
      have hM1 : (if wid < a.r then a.r - wid else 0) = M := by rw [← hM]; split <;> omega
      have hM2 : (if 0 < a.r - wid then a.r - wid else 0) = M := by rw [← hM]; split <;> omega
      have HM := Lib.hid hM
      clear hM
      clear hR2 hN2 hB2 hwid hblk hBw HRR HNN HBB hBa ak0 ak1 ak2 ak3 hm0 hm1 hneR hRN
      go_cut [13] from 13 to 42 (fun s13 wc => s13 = .int .i64 k ∧ RoomsAt wc Br (updG (partLo l err out k) k M) (updG (partHi l err out k) k (min 40 (a.r + wid))) ∧ wc.heap[Bn]? = some (.cells #[.slice (some ⟨b, o, none⟩) n cap, .int .i64 T, .int .i64 C] 33 (0, 0)) ∧ Below w.heap.size w wc)
      case first =>
        go_region_held3 (fun X => X.cell? ⟨Ba, 2, none⟩ = some (.int .i64 a.r)) (go_keep) (first | (go_at_call 96; refine (smallest_two _ 40 (a.r + wid) _ (by simp) (by simp)).mono ?_; rintro e w' ⟨rfl, rfl⟩))
        all_goals
          go_wp2
          go_meet
          case rel =>
            refine ⟨rfl, (HR2.out.set (i := k) (by omega) M (min 40 (a.r + wid))).of_block (Below.heap_alloc _ _ _ (by simp; omega)), ?_, ?_⟩
            · refine Eq.trans ?_ HN2.out
              exact (Below.heap_alloc _ _ _ (by simp; omega)).trans ((Below.heap_setCell _ _ _ _ (by simp; omega)).trans (Below.heap_setCell _ _ _ _ (by simp; omega)))
            · exact (((HB2.out.setCell (by simp; omega) _).setCell (by simp; omega) _).alloc (by have := HB2.out.size; simp; omega) _).drew
      case rest =>
        obtain ⟨rfl, hR3, hN3, hB3⟩ := hcut
        clear HR2 HN2 HB2 a2 r0 r1 z0 z1 hM1 hM2 wp1 wp2 lR lN hszw
        have r0 := (hR3.cells (i := k) (by omega)).1
        have r1 := (hR3.cells (i := k) (by omega)).2
        have z0 := hR3.frozen (k * 2)
        have z1 := hR3.frozen (k * 2 + 1)
        have hcon := Lib.hid (contains_any ov out k wc (HV.out.keep hB3 (Nat.le_refl _)) (by omega))
        have HR3 := Lib.hid hR3
        have HN3 := Lib.hid hN3
        have HB3 := Lib.hid hB3
        clear hR3 hN3 hB3
        cases hc : out.contains (k : Int) with
        | false =>
          rw [hc] at hcon
          have HC := Lib.hid hc
          clear hc
          go_wp2_with (go_at_call 71; refine hcon.out.mono ?_; rintro e w' ⟨rfl, rfl⟩)
          go_roundw
          case rel => exact ⟨k + 1, by omega, by go_num, HR3.out.congr (fun i hi => partLo_out HC.out hlk HAK.out (by rw [HW.out]; exact HM.out) i) (fun i hi => partHi_out HC.out hlk HAK.out (by rw [HW.out]) i), HN3.out, HB3.out⟩
          case measure => simp [intOf]; omega
        | true =>
          rw [hc] at hcon
          have HC := Lib.hid hc
          clear hc
          go_wp2_with (go_at_call 71; refine hcon.out.mono ?_; rintro e w' ⟨rfl, rfl⟩)
          refine (everything_any _).mono ?_
          rintro e w4 ⟨rfl, hb4⟩
          have lR := HR3.out.lt
          have hN4 := (hb4.block Bn (Array.getElem?_eq_some_iff.1 HN3.out).1).trans HN3.out
          have hR4 := HR3.out.of_block (hb4.block Br lR)
          have hB4 : Below w.heap.size w w4 := HB3.out.trans (hb4.mono HB3.out.size)
          clear r0 r1 z0 z1 hb4 HR3 HN3 HB3
          have r0 := (hR4.cells (i := k) (by omega)).1
          have r1 := (hR4.cells (i := k) (by omega)).2
          have z0 := hR4.frozen (k * 2)
          have z1 := hR4.frozen (k * 2 + 1)
          have HR4 := Lib.hid hR4
          have HN4 := Lib.hid hN4
          have HB4 := Lib.hid hB4
          clear hR4 hN4 hB4
          go_wp2_with fail
          go_roundw
          case rel =>
            refine ⟨k + 1, by omega, by go_num, (HR4.out.set (i := k) (by omega) 0 40).congr (fun i hi => partLo_in HC.out hlk i) (fun i hi => partHi_in HC.out hlk i), ?_, ?_⟩
            · exact ((Below.heap_setCell _ _ _ _ (by simp; omega)).trans (Below.heap_setCell _ _ _ _ (by simp; omega))).trans HN4.out
            · exact (HB4.out.setCell (by simp; omega) _).setCell (by simp; omega) _
          case measure => simp [intOf]; omega
    · have hlt' : decide ((k : Int) < (n : Int)) = false := by simpa using hlt
      obtain rfl : k = n := by omega
      obtain ⟨rs, hrb, hrv⟩ := hR
      have hfin : RoomsV rs (roomLo l err out) (roomHi l err out) := hrv.congr (fun i hi => part_allLo (by rw [HL.out]) i) (fun i hi => part_allHi (by rw [HL.out]) i)
      have HF := Lib.hid hfin
      have HRB := Lib.hid hrb
      have HBB := Lib.hid hB
      clear hfin hrv hN hrb hB
      go_wp2_with (first | (refine wpList_load_row rfl 109 _ rfl _ rfl 109 rs _ _ HRB.out Try.underlying109 rfl HF.out.size ?_) | (refine wpList_store_row rfl 109 _ _ rfl _ rs rfl rfl 109 rs HRB.out HF.out.size rfl (roomsV_one HF.out) ?_))
      have hrow : (wr.setRow Br rs).heap[Br]? = some (.cells rs 109 (0, 0)) := setRow_heap wr Br rs rs 109 (0, 0) HRB.out
      refine bodyPost_ret (v := .agg rs) (results_cell_row (p := 6) (ty := 109) rfl _ _ Br 109 rs (0, 0) _ (by rfl) hrow Try.underlying109 rfl HF.out.size) rfl ⟨rs, rfl, HF.out, HBB.out.trans ⟨rfl, rfl, rfl, by simp, fun j hj => setRow_other _ _ _ _ (by omega)⟩⟩
end Go.Proofs.Ytkloaeaepjoijaa

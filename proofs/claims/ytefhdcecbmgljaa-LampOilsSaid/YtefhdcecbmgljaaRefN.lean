/-
  The reference: Agrees, Nth, Oil, Bits, Shorter, Leave.
-/
import Derived.Test.YtefhdcecbmgljaaRefH
import Derived.Test.YtefhdcecbmgljaaPicks
import Derived.Test.YtefhdcecbmgljaaRefI
import Derived.Test.YtefhdcecbmgljaaLeaveQ
import Derived.Test.YtefhdcecbmgljaaOil
set_option linter.all false
namespace Go.Proofs.Ytefhdcecbmgljaa
open Go.RowKit Go.WalkArith

theorem bit_zero (t k : Nat) : (((t : Int) / 2 ^ k).tmod 2 == 0) = !t.testBit k := by
  have e : ((t : Int) / 2 ^ k).tmod 2 = ((t / 2 ^ k % 2 : Nat) : Int) := by
    have h2 : ((2 : Int) ^ k) = ((2 ^ k : Nat) : Int) := by simp
    rw [h2, ← Int.natCast_ediv]
    generalize t / 2 ^ k = q
    rw [Int.tmod_eq_emod_of_nonneg (by omega)]
    omega
  rw [e, Nat.testBit_eq_decide_div_mod_eq]
  by_cases h : t / 2 ^ k % 2 = 1
  · rw [h]; rfl
  · have h0 : t / 2 ^ k % 2 = 0 := by omega
    rw [h0]; rfl
theorem bit_one (t k : Nat) : (((t : Int) / 2 ^ k).tmod 2 == 1) = t.testBit k := by
  have e : ((t : Int) / 2 ^ k).tmod 2 = ((t / 2 ^ k % 2 : Nat) : Int) := by
    have h2 : ((2 : Int) ^ k) = ((2 ^ k : Nat) : Int) := by simp
    rw [h2, ← Int.natCast_ediv]
    generalize t / 2 ^ k = q
    rw [Int.tmod_eq_emod_of_nonneg (by omega)]
    omega
  rw [e, Nat.testBit_eq_decide_div_mod_eq]
  by_cases h : t / 2 ^ k % 2 = 1
  · rw [h]; rfl
  · have h0 : t / 2 ^ k % 2 = 0 := by omega
    rw [h0]; rfl
theorem agBit_no {dips : List Dp} {left : List Int} {out m k : Nat} (hk : k < m) (hb : out.testBit k = false) (h : inB (atL left (dips.getD k ⟨0, 0, 0⟩).n.toNat) (dips.getD k ⟨0, 0, 0⟩).lo (dips.getD k ⟨0, 0, 0⟩).hi = false) : agBit dips left out m = false := by
  cases e : agBit dips left out m with
  | false => rfl
  | true =>
    rcases agBit_iff.1 e k hk with h1 | h1
    · rw [hb] at h1; cases h1
    · rw [h] at h1; cases h1
def RARel (dips : List Dp) (left : List Int) (out : Nat) (w : World) (i : Value) (wr : World) : Prop :=
  ∃ k : Nat, k ≤ dips.length ∧ i = .int .i64 k ∧ (∀ j, j < k → out.testBit j = true ∨ inB (atL left (dips.getD j ⟨0, 0, 0⟩).n.toNat) (dips.getD j ⟨0, 0, 0⟩).lo (dips.getD j ⟨0, 0, 0⟩).hi = true) ∧ Below w.heap.size w wr

set_option maxRecDepth 100000 in
set_option maxHeartbeats 2000000 in
theorem ragrees_any (Ad : Option Addr) (cd : Nat) (dips : List Dp) (Al : Option Addr) (cl : Nat) (left : List Int) (out : Nat) (w : World) (hout : out < 65536) (hd : ∀ d ∈ dips, ∃ i : Nat, d.n = i ∧ i < left.length) (hdl : dips.length ≤ 16) (hll : left.length ≤ 1000) (hA : DpsAt w Ad dips) (hl : IntsAt w (.slice Al left.length cl) left) :
    Calls Try.prog 94 #[.slice Ad dips.length cd, .slice Al left.length cl, .int .i64 out] w fun e w' => e = .returned (.bool (agBit dips left out dips.length)) ∧ Below w.heap.size w w' := by
  have HA := Lib.hid hA
  have HL := Lib.hid hl
  have HD := Lib.hid hd
  clear hA hl hd
  go_enter Try.func94, Try.ntmps94
  go_wp2_with fail
  go_loopw [7] (RARel dips left out w) (fun i _ => dips.length - (intOf i).toNat)
  case atStart => exact ⟨0, by omega, rfl, fun j h => by omega, Below.refl _ _⟩
  case round =>
    obtain ⟨k, hk, rfl, hall, hbe⟩ := hrel
    have HALL := Lib.hid hall
    have HBE := Lib.hid hbe
    clear hall hbe
    by_cases hlt : k < dips.length
    · have hlt' : decide ((k : Int) < (dips.length : Int)) = true := by simpa using hlt
      obtain ⟨b, o, rfl, a0, a1, a2⟩ := (HA.out.keep HBE.out (Nat.le_refl _)).at hlt
      obtain ⟨q, hq, hql⟩ := HD.out dips[k] (List.getElem_mem hlt)
      obtain ⟨⟨dn, dlo, dhi⟩, hN⟩ : ∃ N, dips[k] = N := ⟨_, rfl⟩
      have hg : dips.getD k ⟨0, 0, 0⟩ = ⟨dn, dlo, dhi⟩ := by rw [← hN]; simp [hlt]
      rw [hN] at a0 a1 a2 hq
      dsimp only at a0 a1 a2 hq
      subst hq
      obtain ⟨b', o', rfl, d0⟩ := (HL.out.keep HBE.out (Nat.le_refl _)).at (k := q) hql
      obtain ⟨X, hX⟩ : ∃ X, atL left q = X := ⟨_, rfl⟩
      rw [hX] at d0
      have hno := fun h1 h2 => agBit_no (dips := dips) (left := left) (out := out) (m := dips.length) (k := k) hlt h1 h2
      rw [hg] at hno
      dsimp only at hno
      rw [show ((q : Int)).toNat = q by omega, hX] at hno
      have hstep : out.testBit k = true ∨ inB X dlo dhi = true → out.testBit k = true ∨ inB (atL left (dips.getD k ⟨0, 0, 0⟩).n.toNat) (dips.getD k ⟨0, 0, 0⟩).lo (dips.getD k ⟨0, 0, 0⟩).hi = true := fun h => by
        rw [hg]
        dsimp only
        rw [show ((q : Int)).toNat = q by omega, hX]; exact h
      have HNO := Lib.hid hno
      have HST := Lib.hid hstep
      have hbit := bit_zero out k
      have hin := Lib.hid (fun W => refIn_any X dlo dhi W)
      have i1 : (0 : Int) ≤ (k : Int) := by omega
      have i2 : (k : Int) < (dips.length : Int) := by omega
      have i3 : (0 : Int) ≤ (q : Int) := by omega
      have i4 : (q : Int) < (left.length : Int) := by omega
      have hwa : Below wr.heap.size wr (wr.alloc (.cells #[.int .i64 q, .int .i64 dlo, .int .i64 dhi] 85)) := (Below.refl _ _).alloc (Nat.le_refl _) _
      have HN := Lib.hid (Go.heap_alloc_new wr (.cells #[.int .i64 q, .int .i64 dlo, .int .i64 dhi] 85))
      have e0 := cell_later hwa d0
      have HWA := Lib.hid (HBE.out.trans (hwa.mono HBE.out.size))
      clear hN hg hX hno hstep hwa d0
      cases htb : out.testBit k with
      | true =>
        rw [htb] at hbit
        have HT := Lib.hid htb
        clear htb
        go_wp2_with fail
        clear a0 a1 a2
        generalize wr.alloc (.cells #[.int .i64 q, .int .i64 dlo, .int .i64 dhi] 85) = w2 at HN e0 HWA ⊢
        obtain ⟨Bn, hBn⟩ : ∃ Bn, wr.heap.size = Bn := ⟨_, rfl⟩
        rw [hBn] at HN ⊢
        obtain ⟨c0, c1, c2⟩ := cells3 HN.out
        go_quiet (fail)
        go_wp2_with fail
        go_roundw
        case rel => exact ⟨k + 1, by omega, by go_num, (fun j hj => by
          by_cases e : j = k
          · rw [e]; exact HST.out (.inl HT.out)
          · exact HALL.out j (by omega)), HWA.out.drewN _⟩
        case measure => simp [intOf]; omega
      | false =>
        rw [htb] at hbit
        have HT := Lib.hid htb
        clear htb
        cases hb : inB X dlo dhi with
        | false =>
          rw [hb] at hin
          have HF := Lib.hid (HNO.out HT.out hb)
          clear hb
          go_wp2_with fail
          clear a0 a1 a2
          generalize wr.alloc (.cells #[.int .i64 q, .int .i64 dlo, .int .i64 dhi] 85) = w2 at HN e0 HWA ⊢
          obtain ⟨Bn, hBn⟩ : ∃ Bn, wr.heap.size = Bn := ⟨_, rfl⟩
          rw [hBn] at HN ⊢
          obtain ⟨c0, c1, c2⟩ := cells3 HN.out
          go_quiet ((go_at_call 68; exact Calls.quiet_of_same ((hin.out _).mono fun _ _ h => ⟨h.1, h.2.symm⟩)))
          go_wp2_with fail
          go_ret
          exact ⟨by rw [HF.out]; rfl, HWA.out.drewN _⟩
        | true =>
          rw [hb] at hin
          have HH := Lib.hid hb
          clear hb
          go_wp2_with fail
          clear a0 a1 a2
          generalize wr.alloc (.cells #[.int .i64 q, .int .i64 dlo, .int .i64 dhi] 85) = w2 at HN e0 HWA ⊢
          obtain ⟨Bn, hBn⟩ : ∃ Bn, wr.heap.size = Bn := ⟨_, rfl⟩
          rw [hBn] at HN ⊢
          obtain ⟨c0, c1, c2⟩ := cells3 HN.out
          go_quiet ((go_at_call 68; exact Calls.quiet_of_same ((hin.out _).mono fun _ _ h => ⟨h.1, h.2.symm⟩)))
          go_wp2_with fail
          go_roundw
          case rel => exact ⟨k + 1, by omega, by go_num, (fun j hj => by
            by_cases e : j = k
            · rw [e]; exact HST.out (.inr HH.out)
            · exact HALL.out j (by omega)), HWA.out.drewN _⟩
          case measure => simp [intOf]; omega
    · have hlt' : decide ((k : Int) < (dips.length : Int)) = false := by simpa using hlt
      have HF := Lib.hid (agBit_iff.2 (fun j hj => HALL.out j (by omega) : ∀ j, j < dips.length → _))
      go_wp2_with fail
      go_ret
      exact ⟨by rw [HF.out]; rfl, HBE.out⟩

/-- The list of what burns, the last nights filled. -/
def nthTo (s : St) (n r : Nat) : List Int := (List.range s.ns.length).map fun i => if s.ns.length - r ≤ i then nthB s n i else 0
theorem nthTo_len (s : St) (n r : Nat) : (nthTo s n r).length = s.ns.length := by simp [nthTo]
theorem nthTo_full (s : St) (n : Nat) : nthTo s n s.ns.length = nthL s n := by
  unfold nthTo nthL
  exact List.map_congr_left fun i _ => by rw [if_pos (by omega)]
theorem nthTo_set {s : St} {n r i : Nat} (hi : i + r + 1 = s.ns.length) : (nthTo s n r).set i (nthB s n i) = nthTo s n (r + 1) := by
  refine List.ext_getElem (by simp [nthTo]) fun j h1 h2 => ?_
  simp only [nthTo, List.length_map, List.length_range] at h2
  rw [List.getElem_set]
  simp only [nthTo, List.getElem_map, List.getElem_range]
  by_cases e : i = j
  · subst e; rw [if_pos rfl, if_pos (by omega)]
  · rw [if_neg e]
    by_cases e2 : s.ns.length - r ≤ j
    · rw [if_pos e2, if_pos (by omega)]
    · rw [if_neg e2, if_neg (by omega)]
theorem made_zeros (n : Nat) : (madeCells #[Value.int .i64 0] n).toList = (List.replicate n (0 : Int)).map (Value.int .i64) := by
  rw [List.map_replicate]
  refine List.ext_getElem (by simp [madeCells]) fun i h1 h2 => ?_
  simp [madeCells, Nat.mod_one]
theorem nthTo_zero (s : St) (n : Nat) : nthTo s n 0 = List.replicate s.ns.length 0 := by
  refine List.ext_getElem (by simp [nthTo]) fun i h1 h2 => ?_
  simp only [nthTo, List.getElem_map, List.getElem_range, List.getElem_replicate]
  simp only [nthTo, List.length_map, List.length_range] at h1
  rw [if_neg (by omega)]
theorem set_both {w : World} {B t : Nat} {x y : Value} {fr : Nat × Nat} (h : w.heap[B]? = some (.cells #[x, y] t fr)) (x' y' : Value) :
    ((w.setCell ⟨B, 0, none⟩ x').setCell ⟨B, 1, none⟩ y').heap[B]? = some (.cells #[x', y'] t fr) := by
  obtain ⟨hlt, hg⟩ := Array.getElem?_eq_some_iff.1 h
  simp [World.setCell, hlt, Array.getElem_modify, hg]
theorem set_fst {w : World} {B t : Nat} {x y : Value} {fr : Nat × Nat} (h : w.heap[B]? = some (.cells #[x, y] t fr)) (x' : Value) :
    (w.setCell ⟨B, 0, none⟩ x').heap[B]? = some (.cells #[x', y] t fr) := by
  obtain ⟨hlt, hg⟩ := Array.getElem?_eq_some_iff.1 h
  simp [World.setCell, hlt, Array.getElem_modify, hg]

theorem Go_below_of_grown {w w' : World} (h : w.grownBy w' none) : Below w.heap.size w w' := ⟨h.os, h.tape, h.output, h.size, fun j hj => h.block j hj (by simp)⟩
theorem cell_set1 {w : World} {B Bi k i : Nat} {x : Value} (h : Bi ≠ B) : (w.setCell ⟨B, i, none⟩ x).cell? ⟨Bi, k, none⟩ = w.cell? ⟨Bi, k, none⟩ := cell_block (Below.heap_setCell _ _ _ _ h)
def NTRel (s : St) (n0 : Nat) (w : World) (Bs Br Bt g : Nat) (os : Obj) (n i : Value) (wr : World) : Prop :=
  ∃ r : Nat, r ≤ s.ns.length ∧ i = .int .i64 ((s.ns.length : Int) - 1 - (r : Int)) ∧ n = .int .i64 (remN s n0 r) ∧ wr.heap[Bs]? = some os ∧ wr.heap[Br]? = some (.cells #[.int .i64 0, .slice none 0 0] 31 (0, 0)) ∧ wr.heap[Bt]? = some (.cells #[.int .i64 0, .slice (some ⟨g, 0, none⟩) s.ns.length s.ns.length] 31 (0, 0)) ∧ wr.ownsRow g 3 1 (.slice (some ⟨g, 0, none⟩) s.ns.length s.ns.length) s.ns.length ((nthTo s n0 r).map (Value.int .i64)) ∧ Below w.heap.size w wr

set_option maxRecDepth 100000 in
set_option maxHeartbeats 4000000 in
theorem nth_any (s : St) (A : Option Addr) (cp : Nat) (n0 : Nat) (w : World) (hok : StOk s) (hn0 : n0 < manyN s) (hA : NtsAt w A s.ns) :
    Calls Try.prog 93 #[.agg #[.int .i64 s.cap, .int .i64 s.can, .int .i64 s.sl, .int .i64 s.sh, .slice A s.ns.length cp], .int .i64 n0] w fun e w' => ∃ Ab cb, e = .returned (.agg #[.int .i64 (nthT s n0), .slice Ab (nthL s n0).length cb]) ∧ IntsAt w' (.slice Ab (nthL s n0).length cb) (nthL s n0) ∧ Below w.heap.size w w' := by
  obtain ⟨i0, hi0, hz0, hz1, hz2⟩ := info_parts Try.info3
  have hB0 : Below w.heap.size w ((w.alloc (.cells #[.int .i64 s.cap, .int .i64 s.can, .int .i64 s.sl, .int .i64 s.sh, .slice A s.ns.length cp] 26)).alloc (.cells #[.int .i64 0, .slice none 0 0] 31)) := ((Below.refl _ _).alloc (Nat.le_refl _) _).alloc (by simp) _
  have hb0 : ((w.alloc (.cells #[.int .i64 s.cap, .int .i64 s.can, .int .i64 s.sl, .int .i64 s.sh, .slice A s.ns.length cp] 26)).alloc (.cells #[.int .i64 0, .slice none 0 0] 31)).heap[w.heap.size]? = some (.cells #[.int .i64 s.cap, .int .i64 s.can, .int .i64 s.sl, .int .i64 s.sh, .slice A s.ns.length cp] 26 (0, 0)) := (Below.heap_alloc _ _ _ (by simp)).trans (heap_new_at _ _ _ rfl)
  have hb1 := heap_alloc2 w (.cells #[.int .i64 s.cap, .int .i64 s.can, .int .i64 s.sl, .int .i64 s.sh, .slice A s.ns.length cp] 26) (.cells #[.int .i64 0, .slice none 0 0] 31)
  have HA := Lib.hid hA
  have HO := Lib.hid hok
  have HN0 := Lib.hid hn0
  have h6 := hok.len
  have hpos := hok.pos
  have hwl : IntKind.i64.wrap ((s.ns.length : Int) - 1) = (s.ns.length : Int) - 1 := IntWalk.i64_in _ (by omega)
  clear hA hok hn0
  obtain ⟨w1, hw1⟩ : ∃ w1, ((w.alloc (.cells #[.int .i64 s.cap, .int .i64 s.can, .int .i64 s.sl, .int .i64 s.sh, .slice A s.ns.length cp] 26)).alloc (.cells #[.int .i64 0, .slice none 0 0] 31)) = w1 := ⟨_, rfl⟩
  have hsz1 : w1.heap.size = w.heap.size + 1 + 1 := by rw [← hw1]; simp
  have HW1 := Lib.hid hw1
  rw [hw1] at hB0 hb0 hb1
  have HB1 := Lib.hid hB0
  have HN1 := Lib.hid hb0
  have HR1 := Lib.hid hb1
  clear hw1 hB0 hb0 hb1
  go_enter Try.func93, Try.ntmps93
  go_wp2_with (at_make; refine wpList_make_full _ rfl _ _ 27 rfl (w.heap.size + 1 + 1) 3 i0 (.int .i64 0) 1 Try.underlying27 hi0 hz0 hz1 .i64 .i64 _ _ s.ns.length rfl rfl rfl rfl ?b2 ?b3 ?b4 ?_)
  case b2 => rw [hz2]; omega
  case b3 => unfold maxLen; omega
  case b4 => simp
  rw [HW1.out]
  intro w2 hown hgr
  have hb12 : Below w1.heap.size w1 w2 := Go_below_of_grown hgr
  rw [made_zeros, ← nthTo_zero s n0] at hown
  obtain ⟨g, hgg⟩ : ∃ g, w.heap.size + 1 + 1 = g := ⟨_, rfl⟩
  have HB2 := Lib.hid (HB1.out.trans (hb12.mono HB1.out.size))
  have HN2 := Lib.hid ((hb12.block _ (Array.getElem?_eq_some_iff.1 HN1.out).1).trans HN1.out)
  have HR2 := Lib.hid ((hb12.block _ (Array.getElem?_eq_some_iff.1 HR1.out).1).trans HR1.out)
  have hw2 := hb12.size
  rw [hgg] at hown ⊢
  have hgl := (hown.lt g rfl).2
  have og1 : w.heap.size + 1 < g := by omega
  have HOW := Lib.hid hown
  clear hb12 hgr hown HB1 HN1 HR1 HW1 hgg hsz1
  have hb3 : Below w.heap.size w (w2.alloc (.cells #[.int .i64 0, .slice (some ⟨g, 0, none⟩) s.ns.length s.ns.length] 31)) := HB2.out.alloc (by omega) _
  have hn3 := Go.heap_alloc_new w2 (.cells #[.int .i64 0, .slice (some ⟨g, 0, none⟩) s.ns.length s.ns.length] 31)
  have ho3 := HOW.out.alloc (.cells #[.int .i64 0, .slice (some ⟨g, 0, none⟩) s.ns.length s.ns.length] 31)
  have hs3 := (Below.heap_alloc w2 (.cells #[.int .i64 0, .slice (some ⟨g, 0, none⟩) s.ns.length s.ns.length] 31) w.heap.size (by omega)).trans HN2.out
  have hr3 := (Below.heap_alloc w2 (.cells #[.int .i64 0, .slice (some ⟨g, 0, none⟩) s.ns.length s.ns.length] 31) (w.heap.size + 1) (by omega)).trans HR2.out
  have c4 : (w2.alloc (.cells #[.int .i64 0, .slice (some ⟨g, 0, none⟩) s.ns.length s.ns.length] 31)).cell? ⟨w.heap.size, 4, none⟩ = some (.slice A s.ns.length cp) := by simp only [World.cell?, hs3]; rfl
  have HB3 := Lib.hid hb3
  have HN3 := Lib.hid hs3
  have HR3 := Lib.hid hr3
  have HT3 := Lib.hid hn3
  have HO3 := Lib.hid ho3
  clear hb3 hn3 ho3 hs3 hr3
  go_wp2_with fail
  generalize w2.alloc (.cells #[.int .i64 0, .slice (some ⟨g, 0, none⟩) s.ns.length s.ns.length] 31) = w3 at HB3 HN3 HR3 HT3 HO3 c4 ⊢
  obtain ⟨Bt, hBt⟩ : ∃ Bt, w2.heap.size = Bt := ⟨_, rfl⟩
  obtain ⟨Br, hBr⟩ : ∃ Br, w.heap.size + 1 = Br := ⟨_, rfl⟩
  obtain ⟨Bs, hBs⟩ : ∃ Bs, w.heap.size = Bs := ⟨_, rfl⟩
  have o1 : Bs < Br := by omega
  have o2 : Br < g := by omega
  have o3 : g < Bt := by omega
  have o4 : w.heap.size ≤ Bs := by omega
  rw [hBt] at HT3 ⊢
  rw [hBr] at HR3 ⊢
  rw [hBs] at HN3 ⊢
  clear hBt hBr hBs HB2 HN2 HR2 HOW hw2 hgl c4 og1
  clear hz2 hz1 hz0 hi0 i0
  go_loopw [1, 6] (NTRel s n0 w Bs Br Bt g (.cells #[.int .i64 s.cap, .int .i64 s.can, .int .i64 s.sl, .int .i64 s.sh, .slice A s.ns.length cp] 26 (0, 0))) (fun _ i _ => (intOf i + 1).toNat)
  case atStart => exact ⟨0, by omega, by simp, rfl, HN3.out, HR3.out, HT3.out, HO3.out, HB3.out⟩
  case round =>
    clear HB3 HN3 HR3 HT3 HO3
    obtain ⟨r, hr, rfl, rfl, hs, hr0, ht, hown, hbe⟩ := hrel
    obtain ⟨t0, t1⟩ := cells2 ht
    obtain ⟨r0, r1⟩ := cells2 hr0
    obtain ⟨s0, s1, s2, s3, s4⟩ := cells5 hs
    have lBt := (Array.getElem?_eq_some_iff.1 ht).1
    have hgl := (hown.lt g rfl).2
    have HS := Lib.hid hs
    have HR := Lib.hid hr0
    have HT := Lib.hid ht
    have HOW := Lib.hid hown
    have HBE := Lib.hid hbe
    clear hs hr0 ht hown hbe
    by_cases hlt : r < s.ns.length
    · obtain ⟨i, hi⟩ : ∃ i : Nat, i + r + 1 = s.ns.length := ⟨s.ns.length - (r + 1), by omega⟩
      have hii : (s.ns.length : Int) - 1 - (r : Int) = (i : Int) := by omega
      rw [hii]
      have hge : decide ((i : Int) ≥ 0) = true := by simp
      have hge2 : decide ((0 : Int) ≤ (i : Int)) = true := by simp
      have hin : i < s.ns.length := by omega
      obtain ⟨b, o, rfl, a0, a1, a2, a3, a4⟩ := (HA.out.keep HBE.out (Nat.le_refl _)).at hin
      rw [← ntAt_at hin] at a0 a1 a2 a3 a4
      have hnt := HO.out.nt i hin
      have hbu := burnsN_bd HO.out hin
      have hrl := remN_lt HO.out HN0.out hr
      have hmb := manyTo_big HO.out (i := s.ns.length - r) (by omega)
      have hst := nthTo_set (s := s) (n := n0) hi
      have hnb : nthB s n0 i = (ntAt s i).lo + ((remN s n0 r % burnsN s i : Nat) : Int) := by unfold nthB; rw [show s.ns.length - (i + 1) = r by omega]
      have hrs : remN s n0 (r + 1) = remN s n0 r / burnsN s i := by simp only [remN]; rw [show s.ns.length - (r + 1) = i by omega]
      obtain ⟨⟨nh, na, nb, nlo, nhi⟩, hN⟩ : ∃ N, ntAt s i = N := ⟨_, rfl⟩
      rw [hN] at a0 a1 a2 a3 a4 hnt hbu hnb
      dsimp only at a0 a1 a2 a3 a4 hnt hbu hnb
      obtain ⟨W, hW⟩ : ∃ W, burnsN s i = W := ⟨_, rfl⟩
      obtain ⟨R, hR⟩ : ∃ R, remN s n0 r = R := ⟨_, rfl⟩
      obtain ⟨R', hR'⟩ : ∃ R', remN s n0 (r + 1) = R' := ⟨_, rfl⟩
      obtain ⟨B, hB⟩ : ∃ B, nthB s n0 i = B := ⟨_, rfl⟩
      rw [hW] at hbu hnb hrs
      rw [hR] at hnb hrs hrl ⊢
      rw [hR'] at hrs
      rw [hB] at hnb hst
      obtain ⟨D, hD⟩ : ∃ D, nhi - nlo = D := ⟨_, rfl⟩
      have hmod : R % W < W := Nat.mod_lt _ (by omega)
      have hdiv : R / W ≤ R := Nat.div_le_self _ _
      have w1' : IntKind.i64.wrap (nhi - nlo) = D := by rw [hD]; exact IntWalk.i64_in _ (by omega)
      have w2' : IntKind.i64.wrap (D + 1) = (W : Int) := by rw [show D + 1 = (W : Int) by omega]; exact IntWalk.i64_in _ (by omega)
      obtain ⟨Q, hQ⟩ : ∃ Q, R % W = Q := ⟨_, rfl⟩
      have w3b : (R : Int) % (W : Int) = (Q : Int) := by rw [← hQ]; simp
      have w3' : ((R : Int)).tmod (W : Int) = (Q : Int) := by rw [Int.tmod_eq_emod_of_nonneg (by omega)]; exact w3b
      rw [hQ] at hnb hmod
      have w4' : IntKind.i64.wrap (nlo + (Q : Int)) = B := by rw [hnb]; exact IntWalk.i64_in _ (by omega)
      have w5' : ((R : Int)).tdiv (W : Int) = (R' : Int) := by rw [Int.tdiv_eq_ediv_of_nonneg (by omega), hrs]; simp
      have w6' : IntKind.i64.wrap (R' : Int) = (R' : Int) := IntWalk.i64_in _ (by omega)
      have w7' : ((W : Int) == 0) = false := by simp; omega
      have w8' : ¬ W = 0 := by omega
      have i1 : (0 : Int) ≤ (i : Int) := by omega
      have i2 : (i : Int) < (s.ns.length : Int) := by omega
      have oc := own_cell1 HOW.out
      have zi := oc.2 i
      have ci : ∃ v, wr.cell? ⟨g, i, none⟩ = some v := by
        have hlen : ((nthTo s n0 r).map (Value.int .i64)).length = s.ns.length := by simp [nthTo]
        exact ⟨_, oc.1 i _ (List.getElem?_eq_getElem (by rw [hlen]; exact hin))⟩
      obtain ⟨v0, ci⟩ := ci
      have HST := Lib.hid hst
      have HRR := Lib.hid hR'
      clear hnt hbu hrl hmb hst hnb hrs hN hW hR hR' hB hD hmod hdiv oc hQ
      have hwa : Below wr.heap.size wr (wr.alloc (.cells #[.int .i64 nlo, .int .i64 nhi] 23)) := (Below.refl _ _).alloc (Nat.le_refl _) _
      have HNB := Lib.hid (Go.heap_alloc_new wr (.cells #[.int .i64 nlo, .int .i64 nhi] 23))
      have ht2 := cell_later hwa t1
      have hc2 := cell_later hwa ci
      have hz2 : (wr.alloc (.cells #[.int .i64 nlo, .int .i64 nhi] 23)).frozen? ⟨g, i, none⟩ = false := by rw [← zi]; exact Below.frozen hwa hgl
      have HWA := Lib.hid hwa
      clear hwa
      go_wp2_with fail
      clear a0 a1 a2 a3 a4 t0 t1 r0 r1 s0 s1 s2 s3 s4 ci zi
      generalize wr.alloc (.cells #[.int .i64 nlo, .int .i64 nhi] 23) = w4 at HNB ht2 hc2 hz2 HWA ⊢
      obtain ⟨Bn, hBn⟩ : ∃ Bn, wr.heap.size = Bn := ⟨_, rfl⟩
      rw [hBn] at HNB ⊢
      obtain ⟨c0, c1⟩ := cells2 HNB.out
      have nbg : Bn ≠ g := by omega
      have ntg : Bt ≠ g := by omega
      refine wp_region_held_drew (S := fun X => X.cell? ⟨Bt, 1, none⟩ = some (.slice (some ⟨g, 0, none⟩) s.ns.length s.ns.length) ∧ X.cell? ⟨Bn, 0, none⟩ = some (.int .i64 nlo) ∧ X.cell? ⟨Bn, 1, none⟩ = some (.int .i64 nhi)) (by kernel_rfl) (⟨ht2, c0, c1⟩) (fun hS0 => ?_)
      refine tkH 0 ⟨some 27, .fieldAddr 31 (.tmp 5) 1, 0, "ref.go:129", #[], none⟩ (v := ?_) hS0 ?_ ?_
      rotate_left
      · intro X ⟨x0, x1, x2⟩; go_simp; try with_reducible rfl
      simp only [Act.put, List.setIfInBounds_toArray, List.set_cons_zero, List.set_cons_succ, Array.toArray_toList]
      refine tkH 1 ⟨some 28, .load 27 (.tmp 27), 27, "ref.go:129", #[⟨0, .data⟩], none⟩ (v := ?_) hS0 ?_ ?_
      rotate_left
      · intro X ⟨x0, x1, x2⟩; go_simp; try with_reducible rfl
      simp only [Act.put, List.setIfInBounds_toArray, List.set_cons_zero, List.set_cons_succ, Array.toArray_toList]
      refine tkH 2 ⟨some 29, .move (.tmp 6), 3, "ref.go:129", #[], none⟩ (v := ?_) hS0 ?_ ?_
      rotate_left
      · intro X ⟨x0, x1, x2⟩; go_simp; try with_reducible rfl
      simp only [Act.put, List.setIfInBounds_toArray, List.set_cons_zero, List.set_cons_succ, Array.toArray_toList]
      refine tkH 3 ⟨some 30, .fieldAddr 23 (.tmp 7) 0, 0, "ref.go:129", #[], none⟩ (v := ?_) hS0 ?_ ?_
      rotate_left
      · intro X ⟨x0, x1, x2⟩; go_simp; try with_reducible rfl
      simp only [Act.put, List.setIfInBounds_toArray, List.set_cons_zero, List.set_cons_succ, Array.toArray_toList]
      refine tkH 4 ⟨some 31, .load 3 (.tmp 30), 3, "ref.go:129", #[⟨3, .data⟩], none⟩ (v := ?_) hS0 ?_ ?_
      rotate_left
      · intro X ⟨x0, x1, x2⟩; go_simp; try with_reducible rfl
      simp only [Act.put, List.setIfInBounds_toArray, List.set_cons_zero, List.set_cons_succ, Array.toArray_toList]
      refine tkH 5 ⟨some 32, .move (.tmp 1), 3, "ref.go:129", #[], none⟩ (v := ?_) hS0 ?_ ?_
      rotate_left
      · intro X ⟨x0, x1, x2⟩; go_simp; try with_reducible rfl
      simp only [Act.put, List.setIfInBounds_toArray, List.set_cons_zero, List.set_cons_succ, Array.toArray_toList]
      refine tkH 6 ⟨some 33, .fieldAddr 23 (.tmp 7) 1, 0, "ref.go:129", #[], none⟩ (v := ?_) hS0 ?_ ?_
      rotate_left
      · intro X ⟨x0, x1, x2⟩; go_simp; try with_reducible rfl
      simp only [Act.put, List.setIfInBounds_toArray, List.set_cons_zero, List.set_cons_succ, Array.toArray_toList]
      refine tkH 7 ⟨some 34, .load 3 (.tmp 33), 3, "ref.go:129", #[⟨6, .data⟩], none⟩ (v := ?_) hS0 ?_ ?_
      rotate_left
      · intro X ⟨x0, x1, x2⟩; go_simp; try with_reducible rfl
      simp only [Act.put, List.setIfInBounds_toArray, List.set_cons_zero, List.set_cons_succ, Array.toArray_toList]
      refine tkH 8 ⟨some 35, .fieldAddr 23 (.tmp 7) 0, 0, "ref.go:129", #[], none⟩ (v := ?_) hS0 ?_ ?_
      rotate_left
      · intro X ⟨x0, x1, x2⟩; go_simp; try with_reducible rfl
      simp only [Act.put, List.setIfInBounds_toArray, List.set_cons_zero, List.set_cons_succ, Array.toArray_toList]
      refine tkH 9 ⟨some 36, .load 3 (.tmp 35), 3, "ref.go:129", #[⟨8, .data⟩], none⟩ (v := ?_) hS0 ?_ ?_
      rotate_left
      · intro X ⟨x0, x1, x2⟩; go_simp; try with_reducible rfl
      simp only [Act.put, List.setIfInBounds_toArray, List.set_cons_zero, List.set_cons_succ, Array.toArray_toList]
      refine tkH 10 ⟨some 37, .binOp .sub 3 (.tmp 34) (.tmp 36) 3, 3, "ref.go:129", #[⟨7, .data⟩, ⟨9, .data⟩], none⟩ (v := ?_) hS0 ?_ ?_
      rotate_left
      · intro X ⟨x0, x1, x2⟩; go_simp; try with_reducible rfl
      simp only [Act.put, List.setIfInBounds_toArray, List.set_cons_zero, List.set_cons_succ, Array.toArray_toList]
      refine tkH 11 ⟨some 38, .binOp .add 3 (.tmp 37) (.const (.int .i64 1)) 3, 3, "ref.go:129", #[⟨10, .data⟩], none⟩ (v := ?_) hS0 ?_ ?_
      rotate_left
      · intro X ⟨x0, x1, x2⟩; go_simp; try with_reducible rfl
      simp only [Act.put, List.setIfInBounds_toArray, List.set_cons_zero, List.set_cons_succ, Array.toArray_toList]
      refine tkH 12 ⟨some 39, .binOp .rem 3 (.tmp 32) (.tmp 38) 3, 3, "ref.go:129", #[⟨5, .data⟩, ⟨11, .data⟩], none⟩ (v := ?_) hS0 ?_ ?_
      rotate_left
      · intro X ⟨x0, x1, x2⟩; go_simp; try with_reducible rfl
      simp only [Act.put, List.setIfInBounds_toArray, List.set_cons_zero, List.set_cons_succ, Array.toArray_toList]
      refine tkH 13 ⟨some 40, .binOp .add 3 (.tmp 31) (.tmp 39) 3, 3, "ref.go:129", #[⟨4, .data⟩, ⟨12, .data⟩], none⟩ (v := ?_) hS0 ?_ ?_
      rotate_left
      · intro X ⟨x0, x1, x2⟩; go_simp; try with_reducible rfl
      simp only [Act.put, List.setIfInBounds_toArray, List.set_cons_zero, List.set_cons_succ, Array.toArray_toList]
      refine tkH 14 ⟨some 41, .move (.tmp 1), 3, "ref.go:129", #[{ on := 23, ground := Ground.gcOnly Departure.lateStores }], none⟩ (v := ?_) hS0 ?_ ?_
      rotate_left
      · intro X ⟨x0, x1, x2⟩; go_simp; try with_reducible rfl
      simp only [Act.put, List.setIfInBounds_toArray, List.set_cons_zero, List.set_cons_succ, Array.toArray_toList]
      refine tkH 15 ⟨some 42, .fieldAddr 23 (.tmp 7) 1, 0, "ref.go:129", #[{ on := 23, ground := Ground.gcOnly Departure.lateStores }], none⟩ (v := ?_) hS0 ?_ ?_
      rotate_left
      · intro X ⟨x0, x1, x2⟩; go_simp; try with_reducible rfl
      simp only [Act.put, List.setIfInBounds_toArray, List.set_cons_zero, List.set_cons_succ, Array.toArray_toList]
      refine tkH 16 ⟨some 43, .load 3 (.tmp 42), 3, "ref.go:129", #[⟨15, .data⟩, { on := 23, ground := Ground.gcOnly Departure.lateStores }], none⟩ (v := ?_) hS0 ?_ ?_
      rotate_left
      · intro X ⟨x0, x1, x2⟩; go_simp; try with_reducible rfl
      simp only [Act.put, List.setIfInBounds_toArray, List.set_cons_zero, List.set_cons_succ, Array.toArray_toList]
      refine tkH 17 ⟨some 44, .fieldAddr 23 (.tmp 7) 0, 0, "ref.go:129", #[{ on := 23, ground := Ground.gcOnly Departure.lateStores }], none⟩ (v := ?_) hS0 ?_ ?_
      rotate_left
      · intro X ⟨x0, x1, x2⟩; go_simp; try with_reducible rfl
      simp only [Act.put, List.setIfInBounds_toArray, List.set_cons_zero, List.set_cons_succ, Array.toArray_toList]
      refine tkH 18 ⟨some 45, .load 3 (.tmp 44), 3, "ref.go:129", #[⟨17, .data⟩, { on := 23, ground := Ground.gcOnly Departure.lateStores }], none⟩ (v := ?_) hS0 ?_ ?_
      rotate_left
      · intro X ⟨x0, x1, x2⟩; go_simp; try with_reducible rfl
      simp only [Act.put, List.setIfInBounds_toArray, List.set_cons_zero, List.set_cons_succ, Array.toArray_toList]
      refine tkH 19 ⟨some 46, .binOp .sub 3 (.tmp 43) (.tmp 45) 3, 3, "ref.go:129", #[⟨16, .data⟩, ⟨18, .data⟩, { on := 23, ground := Ground.gcOnly Departure.lateStores }], none⟩ (v := ?_) hS0 ?_ ?_
      rotate_left
      · intro X ⟨x0, x1, x2⟩; go_simp; try with_reducible rfl
      simp only [Act.put, List.setIfInBounds_toArray, List.set_cons_zero, List.set_cons_succ, Array.toArray_toList]
      refine tkH 20 ⟨some 47, .binOp .add 3 (.tmp 46) (.const (.int .i64 1)) 3, 3, "ref.go:129", #[⟨19, .data⟩, { on := 23, ground := Ground.gcOnly Departure.lateStores }], none⟩ (v := ?_) hS0 ?_ ?_
      rotate_left
      · intro X ⟨x0, x1, x2⟩; go_simp; try with_reducible rfl
      simp only [Act.put, List.setIfInBounds_toArray, List.set_cons_zero, List.set_cons_succ, Array.toArray_toList]
      refine tkH 21 ⟨some 48, .binOp .quo 3 (.tmp 41) (.tmp 47) 3, 3, "ref.go:129", #[⟨14, .data⟩, ⟨20, .data⟩, { on := 23, ground := Ground.gcOnly Departure.lateStores }], none⟩ (v := ?_) hS0 ?_ ?_
      rotate_left
      · intro X ⟨x0, x1, x2⟩; go_simp; try with_reducible rfl
      simp only [Act.put, List.setIfInBounds_toArray, List.set_cons_zero, List.set_cons_succ, Array.toArray_toList]
      refine tkH 22 ⟨some 49, .indexAddr 27 (.tmp 28) (.tmp 29), 0, "ref.go:129", #[⟨1, .data⟩, ⟨2, .data⟩, ⟨0, .phase⟩, ⟨1, .phase⟩, ⟨2, .phase⟩, ⟨3, .phase⟩, ⟨4, .phase⟩, ⟨5, .phase⟩, ⟨6, .phase⟩, ⟨7, .phase⟩, ⟨8, .phase⟩, ⟨9, .phase⟩, ⟨10, .phase⟩, ⟨11, .phase⟩, ⟨12, .phase⟩, ⟨13, .phase⟩, ⟨14, .textOnly .lateStores⟩, ⟨15, .textOnly .lateStores⟩, ⟨16, .textOnly .lateStores⟩, ⟨17, .textOnly .lateStores⟩, ⟨18, .textOnly .lateStores⟩, ⟨19, .textOnly .lateStores⟩, ⟨20, .textOnly .lateStores⟩, ⟨21, .textOnly .lateStores⟩], none⟩ (v := ?_) hS0 ?_ ?_
      rotate_left
      · intro X ⟨x0, x1, x2⟩; go_simp; try with_reducible rfl
      simp only [Act.put, List.setIfInBounds_toArray, List.set_cons_zero, List.set_cons_succ, Array.toArray_toList]
      refine wpAnyH_ready (rs := [23]) (by kernel_rfl) (by simp) (AllReadyH.cons (o := ⟨none, .store 3 (.tmp 49) (.tmp 40), 0, "ref.go:129", #[⟨22, .data⟩, ⟨13, .data⟩, ⟨0, .phase⟩, ⟨1, .phase⟩, ⟨2, .phase⟩, ⟨3, .phase⟩, ⟨4, .phase⟩, ⟨5, .phase⟩, ⟨6, .phase⟩, ⟨7, .phase⟩, ⟨8, .phase⟩, ⟨9, .phase⟩, ⟨10, .phase⟩, ⟨11, .phase⟩, ⟨12, .phase⟩, ⟨13, .phase⟩, ⟨14, .textOnly .lateStores⟩, ⟨15, .textOnly .lateStores⟩, ⟨16, .textOnly .lateStores⟩, ⟨17, .textOnly .lateStores⟩, ⟨18, .textOnly .lateStores⟩, ⟨19, .textOnly .lateStores⟩, ⟨20, .textOnly .lateStores⟩, ⟨21, .textOnly .lateStores⟩], none⟩) rfl (fun K hK => ?_) AllReadyH.nil)
      go_simp
      refine hK.out _ _ (⟨(cell_set1 ntg).trans ht2, (cell_set1 nbg).trans c0, (cell_set1 nbg).trans c1⟩) (fun hS1 => ?_)
      clear hS0 hK K
      refine tkH 24 ⟨some 1, .assign (.tmp 48), 3, "ref.go:129", #[⟨21, .data⟩, ⟨23, .chain⟩, ⟨0, .phase⟩, ⟨1, .phase⟩, ⟨2, .phase⟩, ⟨3, .phase⟩, ⟨4, .phase⟩, ⟨5, .phase⟩, ⟨6, .phase⟩, ⟨7, .phase⟩, ⟨8, .phase⟩, ⟨9, .phase⟩, ⟨10, .phase⟩, ⟨11, .phase⟩, ⟨12, .phase⟩, ⟨13, .phase⟩, ⟨14, .phase⟩, ⟨15, .phase⟩, ⟨16, .phase⟩, ⟨17, .phase⟩, ⟨18, .phase⟩, ⟨19, .phase⟩, ⟨20, .phase⟩, ⟨21, .phase⟩, ⟨22, .phase⟩, ⟨23, .phase⟩], none⟩ (v := ?_) hS1 ?_ ?_
      rotate_left
      · intro X ⟨x0, x1, x2⟩; go_simp; try with_reducible rfl
      simp only [Act.put, List.setIfInBounds_toArray, List.set_cons_zero, List.set_cons_succ, Array.toArray_toList]
      refine wpAnyH_done (by kernel_rfl) ?_ _
      clear hS1
      have hown4 := own_setS (HOW.out.kept (Go_grown_of_below HWA.out) (own_none _)) i (.int .i64 B)
      rw [← List.map_set, HST.out] at hown4
      have hs4 := (Below.heap_setCell w4 ⟨g, i, none⟩ (.int .i64 B) Bs (by show Bs ≠ g; omega)).trans ((HWA.out.block Bs (Array.getElem?_eq_some_iff.1 HS.out).1).trans HS.out)
      have hr4 := (Below.heap_setCell w4 ⟨g, i, none⟩ (.int .i64 B) Br (by show Br ≠ g; omega)).trans ((HWA.out.block Br (Array.getElem?_eq_some_iff.1 HR.out).1).trans HR.out)
      have ht4 := (Below.heap_setCell w4 ⟨g, i, none⟩ (.int .i64 B) Bt (by show Bt ≠ g; omega)).trans ((HWA.out.block Bt (Array.getElem?_eq_some_iff.1 HT.out).1).trans HT.out)
      have hb4 : Below w.heap.size w (w4.setCell ⟨g, i, none⟩ (.int .i64 B)) := (HBE.out.trans (HWA.out.mono HBE.out.size)).setCell (by show w.heap.size ≤ g; omega) _
      generalize w4.setCell ⟨g, i, none⟩ (.int .i64 B) = w5 at hown4 hs4 hr4 ht4 hb4 ⊢
      have HF := Lib.hid (And.intro hs4 (And.intro hr4 (And.intro ht4 (And.intro hown4 hb4))))
      have wri : IntKind.i64.wrap ((i : Int) - 1) = (i : Int) - 1 := IntWalk.i64_in _ (by omega)
      clear hown4 hs4 hr4 ht4 hb4
      go_wp2_with fail
      go_roundw
      case rel => exact ⟨r + 1, by omega, by rw [show (s.ns.length : Int) - 1 - ((r + 1 : Nat) : Int) = (i : Int) - 1 by omega], by rw [HRR.out], HF.out.1, HF.out.2.1, HF.out.2.2.1, HF.out.2.2.2.1, HF.out.2.2.2.2.drew⟩
      case measure => simp [intOf] <;> omega
    · obtain rfl : r = s.ns.length := by omega
      have hm1 : (s.ns.length : Int) - 1 - (s.ns.length : Int) = -1 := by omega
      rw [hm1]
      have hd1 : decide ((-1 : Int) ≥ 0) = false := by decide
      have hT0 : nthT s n0 = s.sl + (remN s n0 s.ns.length : Int) := rfl
      have hTR := nth_tr HO.out HN0.out
      have hc1 := HO.out.c1
      have hs2 := HO.out.s2
      have hs0 := HO.out.s0
      have ht0 := hTR.t0
      have ht1 := hTR.t1
      obtain ⟨R, hR⟩ : ∃ R, remN s n0 s.ns.length = R := ⟨_, rfl⟩
      rw [hR] at hT0 ⊢
      obtain ⟨T, hT⟩ : ∃ T, nthT s n0 = T := ⟨_, rfl⟩
      have hnl := nthL_len s n0
      have hfull := nthTo_full s n0
      rw [hT] at hT0 ht0 ht1
      have HTT := Lib.hid hT
      have wt : IntKind.i64.wrap (s.sl + (R : Int)) = T := by rw [← hT0]; exact IntWalk.i64_in _ (by omega)
      have zt : wr.frozen? ⟨Bt, 0, none⟩ = false := by simp [World.frozen?, HT.out]
      have HNL := Lib.hid hnl
      have HFU := Lib.hid hfull
      clear hT0 hR hT hTR hm1 hnl hfull
      go_upto_region 8 with fail
      have hq := set_fst HT.out (.int .i64 T)
      have hrb := (Below.heap_setCell wr ⟨Bt, 0, none⟩ (.int .i64 T) Br (by show Br ≠ Bt; omega)).trans HR.out
      have hO8 := own_of_blocks (w' := wr.setCell ⟨Bt, 0, none⟩ (.int .i64 T)) HOW.out (fun g' hg' => Below.heap_setCell _ _ _ _ (by have e : g' = g := (by simpa [Value.ownBlock] using hg'.symm); show g' ≠ Bt; omega))
      have hb8 : Below w.heap.size w (wr.setCell ⟨Bt, 0, none⟩ (.int .i64 T)) := HBE.out.setCell (by show w.heap.size ≤ Bt; omega) _
      generalize wr.setCell ⟨Bt, 0, none⟩ (.int .i64 T) = v1 at hq hrb hO8 hb8 ⊢
      clear t0 t1 r0 r1 s0 s1 s2 s3 s4 zt wt
      obtain ⟨q0, q1⟩ := cells2 hq
      obtain ⟨r0, r1⟩ := cells2 hrb
      have z0 : v1.frozen? ⟨Br, 0, none⟩ = false := by simp [World.frozen?, hrb]
      have z1 : v1.frozen? ⟨Br, 1, none⟩ = false := by simp [World.frozen?, hrb]
      have HQ := Lib.hid hq
      have HRB := Lib.hid hrb
      have HO8 := Lib.hid hO8
      have HB8 := Lib.hid hb8
      clear hq hrb hO8 hb8
      go_wp2_with fail
      have hq9 := set_both HRB.out (.int .i64 T) (.slice (some ⟨g, 0, none⟩) s.ns.length s.ns.length)
      have hO9 := own_of_blocks (w' := (v1.setCell ⟨Br, 0, none⟩ (.int .i64 T)).setCell ⟨Br, 1, none⟩ (.slice (some ⟨g, 0, none⟩) s.ns.length s.ns.length)) HO8.out (fun g' hg' => by
        have e : g' = g := (by simpa [Value.ownBlock] using hg'.symm)
        exact (Below.heap_setCell _ _ _ _ (by show g' ≠ Br; omega)).trans (Below.heap_setCell _ _ _ _ (by show g' ≠ Br; omega)))
      have hb9 : Below w.heap.size w ((v1.setCell ⟨Br, 0, none⟩ (.int .i64 T)).setCell ⟨Br, 1, none⟩ (.slice (some ⟨g, 0, none⟩) s.ns.length s.ns.length)) := (HB8.out.setCell (by show w.heap.size ≤ Br; omega) _).setCell (by show w.heap.size ≤ Br; omega) _
      generalize (v1.setCell ⟨Br, 0, none⟩ (.int .i64 T)).setCell ⟨Br, 1, none⟩ (.slice (some ⟨g, 0, none⟩) s.ns.length s.ns.length) = V at hq9 hO9 hb9 ⊢
      have u0 : V.cell? ⟨Br, 0, none⟩ = some (.int .i64 T) := by simp [World.cell?, hq9]
      have u1 : V.cell? ⟨Br, 1, none⟩ = some (.slice (some ⟨g, 0, none⟩) s.ns.length s.ns.length) := by simp [World.cell?, hq9]
      rw [HFU.out] at hO9
      have hI := IntsAt.of_own hO9
      have hl := HNL.out
      have hI2 : IntsAt V (.slice (some ⟨g, 0, none⟩) (nthL s n0).length s.ns.length) (nthL s n0) := by rw [hl]; exact hI
      exact bodyPost_ret (v := .agg #[.int .i64 T, .slice (some ⟨g, 0, none⟩) s.ns.length s.ns.length]) (by simp [results, Try.results93, go_sem, u0, u1]) rfl ⟨some ⟨g, 0, none⟩, s.ns.length, by rw [hl, HTT.out], hI2, hb9⟩

theorem rplay_sl (s : St) (A : Option Addr) (cp : Nat) (Ac Ak : Option Addr) (cc ck : Nat) (c k : List Int) (t : Int) (Ab : Option Addr) (cb : Nat) (bs : List Int) (w : World) (hok : planL s c k = 0) (htb : truthB s t bs = true) (hA : NtsAt w A s.ns) (hc : IntsAt w (.slice Ac c.length cc) c) (hk : IntsAt w (.slice Ak k.length ck) k) (hv : IntsAt w (.slice Ab bs.length cb) bs) :
    Calls Try.prog 26 #[.agg #[.int .i64 s.cap, .int .i64 s.can, .int .i64 s.sl, .int .i64 s.sh, .slice A s.ns.length cp], .agg #[.slice Ac c.length cc, .slice Ak k.length ck], .agg #[.int .i64 t, .slice Ab bs.length cb]] w fun e w' => ∃ A1 A2 A3 c1 c2 c3, e = .returned (.tuple #[.slice A1 (leftsL s (atL c) (atL k) (atL bs) t s.ns.length).length c1, .slice A2 (backsL s (atL c) (atL k) (atL bs) t s.ns.length).length c2, .slice A3 (litsL s (atL c) (atL k) (atL bs) t s.ns.length).length c3]) ∧ w'.ownsRow w.heap.size 3 1 (.slice A1 (leftsL s (atL c) (atL k) (atL bs) t s.ns.length).length c1) (leftsL s (atL c) (atL k) (atL bs) t s.ns.length).length ((leftsL s (atL c) (atL k) (atL bs) t s.ns.length).map (Value.int .i64)) ∧ BoolsAt w' (.slice A3 (litsL s (atL c) (atL k) (atL bs) t s.ns.length).length c3) (litsL s (atL c) (atL k) (atL bs) t s.ns.length) ∧ Below w.heap.size w w' :=
  (rplay_any s A cp Ac Ak cc ck c k t Ab cb bs w hok htb hA hc hk hv).mono fun e w' ⟨h1, v1, v2, v3, he, h4, h5, h6⟩ => by
    subst he
    have i1 := IntsAt.of_own h4
    have i2 := IntsAt.of_own h5
    have i3 := BoolsAt.of_own h6
    obtain ⟨A1, c1, rfl, j1⟩ := id i1
    obtain ⟨A2, c2, rfl, j2⟩ := id i2
    obtain ⟨A3, c3, rfl, j3⟩ := id i3
    exact ⟨A1, A2, A3, c1, c2, c3, rfl, h4, i3, h1⟩

theorem flatR_len (L H : Nat → Int) (n : Nat) : (flatR L H n).length = n * 2 := by
  induction n with
  | zero => rfl
  | succ n ih => rw [flatR_succ, List.length_append, ih]; simp; omega
theorem flatR_at (L H : Nat → Int) {n i : Nat} (hi : i < n) : (flatR L H n)[i * 2]? = some (.int .i64 (L i)) ∧ (flatR L H n)[i * 2 + 1]? = some (.int .i64 (H i)) := by
  induction n with
  | zero => omega
  | succ n ih =>
    rw [flatR_succ]
    have hl := flatR_len L H n
    by_cases e : i = n
    · subst e
      rw [List.getElem?_append_right (by omega), List.getElem?_append_right (by omega), hl]
      simp
    · rw [List.getElem?_append_left (by omega), List.getElem?_append_left (by omega)]
      exact ih (by omega)
theorem flatR_congr {L H L' H' : Nat → Int} {n : Nat} (h : ∀ i, i < n → L i = L' i ∧ H i = H' i) : flatR L H n = flatR L' H' n := by
  induction n with
  | zero => rfl
  | succ n ih => rw [flatR_succ, flatR_succ, ih fun i hi => h i (by omega), (h n (by omega)).1, (h n (by omega)).2]
def putN (f : Nat → Int) (i : Nat) (x : Int) : Nat → Int := fun j => if j = i then x else f j
theorem flatR_set (L H : Nat → Int) {n i : Nat} (hi : i < n) (x y : Int) : ((flatR L H n).set (i * 2) (.int .i64 x)).set (i * 2 + 1) (.int .i64 y) = flatR (putN L i x) (putN H i y) n := by
  refine List.ext_getElem? fun q => ?_
  by_cases hq : q < n * 2
  · obtain ⟨a, r, hqr, hr⟩ : ∃ a r, q = a * 2 + r ∧ r < 2 := ⟨q / 2, q % 2, by omega, by omega⟩
    subst hqr
    have ha : a < n := by omega
    have f0 := flatR_at L H ha
    have f1 := flatR_at (putN L i x) (putN H i y) ha
    have hl := flatR_len L H n
    rw [List.getElem?_set, List.getElem?_set]
    simp only [List.length_set]
    by_cases e : a = i
    · subst e
      have : r = 0 ∨ r = 1 := by omega
      rcases this with rfl | rfl
      · rw [if_neg (by omega), if_pos (by omega), if_pos (by omega), Nat.add_zero, f1.1]; simp [putN]
      · rw [if_pos rfl, if_pos (by omega), f1.2]; simp [putN]
    · rw [if_neg (by omega), if_neg (by omega)]
      have : r = 0 ∨ r = 1 := by omega
      rcases this with rfl | rfl
      · rw [Nat.add_zero, f0.1, f1.1]; simp [putN, e]
      · rw [f0.2, f1.2]; simp [putN, e]
  · rw [List.getElem?_eq_none (by rw [List.length_set, List.length_set, flatR_len]; omega), List.getElem?_eq_none (by rw [flatR_len]; omega)]
theorem own_cell2 {w : World} {base e g n cap : Nat} {xs : List Value} (h : w.ownsRow base e 2 (.slice (some ⟨g, 0, none⟩) n cap) n xs) : (∀ k v, xs[k]? = some v → w.cell? ⟨g, k, none⟩ = some v) ∧ ∀ k, w.frozen? ⟨g, k, none⟩ = false := by
  obtain ⟨_, ⟨h0, _⟩ | ⟨g', cap', cur, h1, h2, h3, h4, h5, h6, h7⟩⟩ := h
  · cases h0
  · cases h1
    refine ⟨fun k v hk => ?_, fun k => by simp [World.frozen?, h3]⟩
    rw [← h7] at hk
    have hlt : k < n * 2 := by
      have := (List.getElem?_eq_some_iff.1 hk).1
      rw [List.length_take] at this
      omega
    rw [List.getElem?_take_of_lt hlt] at hk
    have : cur[k]? = some v := by simpa using hk
    simp [World.cell?, h3, this]
/-- The ranges of a list, the first places of which have been widened. -/
def lowTo (L : Nat → Int) (left : List Int) (j : Nat) : Nat → Int := fun i => if i < j then min (L i) (atL left i) else L i
def highTo (H : Nat → Int) (left : List Int) (j : Nat) : Nat → Int := fun i => if i < j then max (H i) (atL left i) else H i
theorem lowTo_put (L : Nat → Int) (left : List Int) (j : Nat) : putN (lowTo L left j) j (min (L j) (atL left j)) = lowTo L left (j + 1) := by
  funext i
  unfold putN lowTo
  by_cases e : i = j
  · subst e; rw [if_pos rfl, if_pos (by omega)]
  · rw [if_neg e]
    by_cases e2 : i < j
    · rw [if_pos e2, if_pos (by omega)]
    · rw [if_neg e2, if_neg (by omega)]
theorem highTo_put (L : Nat → Int) (left : List Int) (j : Nat) : putN (highTo L left j) j (max (L j) (atL left j)) = highTo L left (j + 1) := by
  funext i
  unfold putN highTo
  by_cases e : i = j
  · subst e; rw [if_pos rfl, if_pos (by omega)]
  · rw [if_neg e]
    by_cases e2 : i < j
    · rw [if_pos e2, if_pos (by omega)]
    · rw [if_neg e2, if_neg (by omega)]
theorem Try.info23 : (Try.prog.info? 23).map (fun i => (i.zero, i.size, i.bytes)) = some (some (.agg #[.int .i64 0, .int .i64 0]), 2, 16) := by kernel_rfl

/-- What has been found among the first truths. -/
def Found (s : St) (c k : Nat → Int) (q : Nat → Bool) (m base : Nat) (v : Value) (wr : World) : Prop :=
  (v = .slice none 0 0 ∧ ∀ n, n < m → q n = false) ∨ ∃ g cap L H, v = .slice (some ⟨g, 0, none⟩) s.ns.length cap ∧ RgTo s c k q m L H ∧ wr.ownsRow base 23 2 v s.ns.length (flatR L H s.ns.length)
def ROPost (s : St) (c k : List Int) (dips : List Dp) (out : Nat) (w : World) (e : Ending) (w' : World) : Prop :=
  Below w.heap.size w w' ∧ ∃ v, Found s (atL c) (atL k) (nAg s (atL c) (atL k) dips out) (manyN s) w.heap.size v w' ∧ ((v = .slice none 0 0 ∧ e = .returned (.tuple #[v, .bool false])) ∨ (v ≠ .slice none 0 0 ∧ e = .returned (.tuple #[v, .bool true])))
def RORel (s : St) (c k : List Int) (dips : List Dp) (out : Nat) (w : World) (Bs Bp : Nat) (os op : Obj) (v n : Value) (wr : World) : Prop :=
  ∃ m : Nat, m ≤ manyN s ∧ n = .int .i64 m ∧ wr.heap[Bs]? = some os ∧ wr.heap[Bp]? = some op ∧ Below w.heap.size w wr ∧ Found s (atL c) (atL k) (nAg s (atL c) (atL k) dips out) m (Bp + 1) v wr
def RIRel (left : List Int) (w4 : World) (v i : Value) (wr : World) : Prop :=
  ∃ j : Nat, j ≤ left.length ∧ i = .int .i64 j ∧ wr.ownsRow w4.heap.size 23 2 v j (flatR (atL left) (atL left) j) ∧ Below w4.heap.size w4 wr
def RJRel (left : List Int) (L H : Nat → Int) (base g cap : Nat) (w4 : World) (v i : Value) (wr : World) : Prop :=
  ∃ j : Nat, j ≤ left.length ∧ i = .int .i64 j ∧ v = .slice (some ⟨g, 0, none⟩) left.length cap ∧ wr.ownsRow base 23 2 (.slice (some ⟨g, 0, none⟩) left.length cap) left.length (flatR (lowTo L left j) (highTo H left j) left.length) ∧ (∀ b, b ≠ g → b < w4.heap.size → wr.heap[b]? = w4.heap[b]?) ∧ w4.heap.size ≤ wr.heap.size ∧ wr.os = w4.os ∧ wr.tape = w4.tape ∧ wr.output = w4.output

set_option maxRecDepth 100000 in
set_option maxHeartbeats 8000000 in
theorem roil_any (s : St) (A : Option Addr) (cp : Nat) (Ac Ak : Option Addr) (cc ck : Nat) (c k : List Int) (Ad : Option Addr) (cd : Nat) (dips : List Dp) (out : Nat) (w : World) (hok : planL s c k = 0) (hout : out < 65536) (hdv : ∀ d ∈ dips, dipB s d = true) (hdl : dips.length ≤ 16) (hA : NtsAt w A s.ns) (hc : IntsAt w (.slice Ac c.length cc) c) (hk : IntsAt w (.slice Ak k.length ck) k) (hd : DpsAt w Ad dips) :
    Calls Try.prog 53 #[.agg #[.int .i64 s.cap, .int .i64 s.can, .int .i64 s.sl, .int .i64 s.sh, .slice A s.ns.length cp], .agg #[.slice Ac c.length cc, .slice Ak k.length ck], .slice Ad dips.length cd, .int .i64 out] w (ROPost s c k dips out w) := by
  have HA := Lib.hid hA
  have HC := Lib.hid hc
  have HK := Lib.hid hk
  have HD := Lib.hid hd
  have HP := Lib.hid hok
  obtain ⟨h, hcl', hkl', hpl⟩ := planL_zero.1 hok
  have HO := Lib.hid h
  have hlen := h.len
  have hpos := h.pos
  have HDV := Lib.hid (fun d hd => dipB_n (hdv d hd))
  have hbig := manyTo_big h (Nat.le_refl _)
  have hbig' : manyN s ≤ 710395961 := hbig
  clear hA hc hk hd hok h hcl' hkl' hpl hdv hbig
  have hB0 : Below w.heap.size w ((w.alloc (.cells #[.int .i64 s.cap, .int .i64 s.can, .int .i64 s.sl, .int .i64 s.sh, .slice A s.ns.length cp] 26)).alloc (.cells #[.slice Ac c.length cc, .slice Ak k.length ck] 29)) := ((Below.refl _ _).alloc (Nat.le_refl _) _).alloc (by simp) _
  have hn0 : ((w.alloc (.cells #[.int .i64 s.cap, .int .i64 s.can, .int .i64 s.sl, .int .i64 s.sh, .slice A s.ns.length cp] 26)).alloc (.cells #[.slice Ac c.length cc, .slice Ak k.length ck] 29)).heap[w.heap.size]? = some (.cells #[.int .i64 s.cap, .int .i64 s.can, .int .i64 s.sl, .int .i64 s.sh, .slice A s.ns.length cp] 26 (0, 0)) := (Below.heap_alloc _ _ _ (by simp <;> omega)).trans (heap_new_at _ _ _ rfl)
  have hn1 : ((w.alloc (.cells #[.int .i64 s.cap, .int .i64 s.can, .int .i64 s.sl, .int .i64 s.sh, .slice A s.ns.length cp] 26)).alloc (.cells #[.slice Ac c.length cc, .slice Ak k.length ck] 29)).heap[w.heap.size + 1]? = some (.cells #[.slice Ac c.length cc, .slice Ak k.length ck] 29 (0, 0)) := heap_new_at _ _ _ (by simp)
  have HB1 := Lib.hid hB0
  have NBs1 := Lib.hid hn0
  have NBp1 := Lib.hid hn1
  clear hB0 hn0 hn1
  go_enter Try.func53, Try.ntmps53
  go_wp2_with fail
  generalize ((w.alloc (.cells #[.int .i64 s.cap, .int .i64 s.can, .int .i64 s.sl, .int .i64 s.sh, .slice A s.ns.length cp] 26)).alloc (.cells #[.slice Ac c.length cc, .slice Ak k.length ck] 29)) = w1 at HB1 NBs1 NBp1 ⊢
  obtain ⟨Bp, hBp⟩ : ∃ Bp, w.heap.size + 1 = Bp := ⟨_, rfl⟩
  obtain ⟨Bs, hBs⟩ : ∃ Bs, w.heap.size = Bs := ⟨_, rfl⟩
  have oBp : w.heap.size ≤ Bp := by omega
  have oBsBp : Bs < Bp := by omega
  have oBs : w.heap.size ≤ Bs := by omega
  rw [hBp] at NBp1 ⊢
  rw [hBs] at NBs1 ⊢
  clear hBs hBp
  obtain ⟨cBs0_1, cBs1_1, cBs2_1, cBs3_1, cBs4_1⟩ := cells5 NBs1.out
  obtain ⟨cBp0_1, cBp1_1⟩ := cells2 NBp1.out
  go_wp2_with fail
  go_loopw [10, 11] (RORel s c k dips out w Bs Bp (.cells #[.int .i64 s.cap, .int .i64 s.can, .int .i64 s.sl, .int .i64 s.sh, .slice A s.ns.length cp] 26 (0, 0)) (.cells #[.slice Ac c.length cc, .slice Ak k.length ck] 29 (0, 0))) (fun _ n _ => manyN s - (intOf n).toNat)
  case atStart => exact ⟨0, by omega, rfl, NBs1.out, NBp1.out, HB1.out, .inl ⟨rfl, fun n h => by omega⟩⟩
  case round =>
    clear cBs0_1 cBs1_1 cBs2_1 cBs3_1 cBs4_1 cBp0_1 cBp1_1 HB1 NBs1 NBp1
    obtain ⟨m, hm, rfl, hn0, hn1, hbe, hfo⟩ := hrel
    have HBE := Lib.hid hbe
    have HN0 := Lib.hid hn0
    have HN1 := Lib.hid hn1
    have HF := Lib.hid hfo
    have lBp := (Array.getElem?_eq_some_iff.1 hn1).1
    obtain ⟨s0, s1, s2, s3, s4⟩ := cells5 hn0
    obtain ⟨p0, p1⟩ := cells2 hn1
    have hma := Lib.hid (many_any s A cp wr HO.out (HA.out.keep hbe (Nat.le_refl _)))
    clear hbe hn0 hn1 hfo
    go_wp2_with fail
    with_reducible refine hma.out.mono ?_
    rintro e w2 ⟨rfl, hb2⟩
    have HB2 := Lib.hid (HBE.out.trans (hb2.mono HBE.out.size))
    have HX2 := Lib.hid hb2
    have hq0 := (hb2.block Bs (Array.getElem?_eq_some_iff.1 HN0.out).1).trans HN0.out
    have hq1 := (hb2.block Bp (Array.getElem?_eq_some_iff.1 HN1.out).1).trans HN1.out
    have HN02 := Lib.hid hq0
    have HN12 := Lib.hid hq1
    clear s0 s1 s2 s3 s4 p0 p1 hma hb2
    obtain ⟨s0, s1, s2, s3, s4⟩ := cells5 hq0
    obtain ⟨p0, p1⟩ := cells2 hq1
    clear hq0 hq1
    by_cases hlt : m < manyN s
    · have hlt' : decide ((m : Int) < (manyN s : Int)) = true := by simpa using hlt
      have htr := nthL_truth HO.out hlt
      go_wp2_with fail
      go_region_held3 (fun X => X.cell? ⟨Bs, 0, none⟩ = some (.int .i64 s.cap) ∧ X.cell? ⟨Bs, 1, none⟩ = some (.int .i64 s.can) ∧ X.cell? ⟨Bs, 2, none⟩ = some (.int .i64 s.sl) ∧ X.cell? ⟨Bs, 3, none⟩ = some (.int .i64 s.sh) ∧ X.cell? ⟨Bs, 4, none⟩ = some (.slice A s.ns.length cp) ∧ X.cell? ⟨Bp, 0, none⟩ = some (.slice Ac c.length cc) ∧ X.cell? ⟨Bp, 1, none⟩ = some (.slice Ak k.length ck))
        (first | go_keep | exact ⟨cell_later hb3 s0, cell_later hb3 s1, cell_later hb3 s2, cell_later hb3 s3, cell_later hb3 s4, cell_later hb3 p0, cell_later hb3 p1⟩ | exact ⟨cell_later hb4 (cell_later hb3 s0), cell_later hb4 (cell_later hb3 s1), cell_later hb4 (cell_later hb3 s2), cell_later hb4 (cell_later hb3 s3), cell_later hb4 (cell_later hb3 s4), cell_later hb4 (cell_later hb3 p0), cell_later hb4 (cell_later hb3 p1)⟩)
        (first | (go_at_call 93; refine (nth_any s A cp m w2.drew HO.out hlt (HA.out.keep HB2.out.drew (Nat.le_refl _))).mono ?_; rintro e w3 ⟨Ab, cb, rfl, hab, hb3⟩; have hB3 := HB2.out.drew.trans (hb3.mono HB2.out.drew.size)) | (go_at_call 26; refine (rplay_sl s A cp Ac Ak cc ck c k (nthT s m) Ab cb (nthL s m) w3 HP.out htr (HA.out.keep hB3 (Nat.le_refl _)) (HC.out.keep hB3 (Nat.le_refl _)) (HK.out.keep hB3 (Nat.le_refl _)) hab).mono ?_; rintro e w4 ⟨L1, L2, L3, lc1, lc2, lc3, rfl, hl1, _, hb4⟩))
      have hb24 : Below w2.heap.size w2 w4 := ((Below.refl _ w2).drew.trans hb3).trans (hb4.mono hb3.size)
      have HB4 := Lib.hid (HB2.out.trans (hb24.mono HB2.out.size))
      have HX4 := Lib.hid (HX2.out.trans (hb24.mono HX2.out.size))
      have HN04 := Lib.hid ((hb24.block Bs (Array.getElem?_eq_some_iff.1 HN02.out).1).trans HN02.out)
      have HN14 := Lib.hid ((hb24.block Bp (Array.getElem?_eq_some_iff.1 HN12.out).1).trans HN12.out)
      have hw4 := hb24.size
      have hw2 := HX2.out.size
      have hw23 : w2.heap.size ≤ w3.heap.size := hb3.size
      have hLL := leftsL_len s (atL c) (atL k) (atL (nthL s m)) (nthT s m) s.ns.length
      have hag : nAg s (atL c) (atL k) dips out m = agBit dips (leftsL s (atL c) (atL k) (atL (nthL s m)) (nthT s m) s.ns.length) out dips.length := rfl
      have hno : ∀ i, i < s.ns.length → atL (leftsL s (atL c) (atL k) (atL (nthL s m)) (nthT s m) s.ns.length) i = nOil s (atL c) (atL k) m (i + 1) := fun i hi => leftsL_at _ _ _ _ _ hi
      obtain ⟨left, hleft⟩ : ∃ left, leftsL s (atL c) (atL k) (atL (nthL s m)) (nthT s m) s.ns.length = left := ⟨_, rfl⟩
      rw [hleft] at hLL hag hno hl1 ⊢
      have HLO := Lib.hid (show w4.ownsRow w2.heap.size 3 1 (.slice L1 left.length lc1) left.length (left.map (Value.int .i64)) from hl1.lower hw23)
      have hl1 := IntsAt.of_own hl1
      have HNO := Lib.hid hno
      have HL1 := Lib.hid hl1
      have HLL := Lib.hid hLL
      have hll6 : left.length ≤ 6 := by omega
      have hagr := Lib.hid (ragrees_any Ad cd dips L1 lc1 left out w4 hout (fun d hd => by obtain ⟨i, h1, h2⟩ := HDV.out d hd; exact ⟨i, h1, by omega⟩) hdl (by omega) (HD.out.keep HB4.out (Nat.le_refl _)) hl1)
      clear s0 s1 s2 s3 s4 p0 p1 hb3 hb4 hB3 hab hb24 hLL hno hl1 hleft htr HN02 HN12 HB2
      cases hq : agBit dips left out dips.length with
      | false =>
        rw [hq] at hag hagr
        have HAG := Lib.hid hag
        clear hq hag
        go_wp2_with fail
        with_reducible refine hagr.out.mono ?_
        rintro e w5 ⟨rfl, hb5⟩
        have HX5 := Lib.hid (HX4.out.trans (hb5.mono HX4.out.size))
        have HB5 := Lib.hid (HBE.out.trans (HX5.out.mono HBE.out.size))
        have HN05 := Lib.hid ((hb5.block Bs (Array.getElem?_eq_some_iff.1 HN04.out).1).trans HN04.out)
        have HN15 := Lib.hid ((hb5.block Bp (Array.getElem?_eq_some_iff.1 HN14.out).1).trans HN14.out)
        clear hb5 hagr
        go_wp2_with fail
        go_roundw
        case rel =>
          refine ⟨m + 1, by omega, by go_num, HN05.out, HN15.out, HB5.out, ?_⟩
          rcases HF.out with ⟨h1, h2⟩ | ⟨g, cap, L, H, h1, h2, h3⟩
          · exact .inl ⟨h1, fun n hn => by
              by_cases e : n = m
              · rw [e]; exact HAG.out
              · exact h2 n (by omega)⟩
          · exact .inr ⟨g, cap, L, H, h1, h2.skip HAG.out, h3.kept (Go_grown_of_below HX5.out) (own_none _)⟩
        case measure => simp [intOf]; omega
      | true =>
        rw [hq] at hag hagr
        have HAG := Lib.hid hag
        clear hq hag
        go_wp2_with fail
        with_reducible refine hagr.out.mono ?_
        rintro e w5 ⟨rfl, hb5⟩
        have HX5 := Lib.hid (HX4.out.trans (hb5.mono HX4.out.size))
        have HB5 := Lib.hid (HBE.out.trans (HX5.out.mono HBE.out.size))
        have HN05 := Lib.hid ((hb5.block Bs (Array.getElem?_eq_some_iff.1 HN04.out).1).trans HN04.out)
        have HN15 := Lib.hid ((hb5.block Bp (Array.getElem?_eq_some_iff.1 HN14.out).1).trans HN14.out)
        have HL5 := Lib.hid (HL1.out.keep hb5 (Nat.le_refl _))
        have HW45 := Lib.hid hb5
        have hw5 := HX5.out.size
        clear hb5 hagr HN04 HN14 HX4 HB4
        rcases HF.out with ⟨h1, h2⟩ | ⟨g, cap, L, H, h1, h2, h3⟩
        · subst h1
          have HNONE := Lib.hid h2
          obtain ⟨i0, hi0', hz0', hz1', hz2'⟩ := info_parts Try.info23
          have hi0 := Lib.hid hi0'
          have hz0 := Lib.hid hz0'
          have hz1 := Lib.hid hz1'
          have hz2 := Lib.hid hz2'
          clear h2 hi0' hz0' hz1' hz2'
          go_wp2_with fail
          go_loopw [10, 16] (RIRel left w5) (fun _ i _ => left.length - (intOf i).toNat)
          case atStart => exact ⟨0, by omega, rfl, World.ownsRow_nil _ _ _ _, Below.refl _ _⟩
          case round =>
            rename_i wq
            obtain ⟨j, hj, rfl, hown, hbe⟩ := hrel
            have HOW := Lib.hid hown
            have HBJ := Lib.hid hbe
            have hwq := hbe.size
            clear hown hbe
            by_cases hlj : j < left.length
            · have hlj' : decide ((j : Int) < (left.length : Int)) = true := by simpa using hlj
              obtain ⟨b', o', rfl, d0⟩ := HL5.out.at (k := j) hlj
              obtain ⟨xv, hX⟩ : ∃ xv, atL left j = xv := ⟨_, rfl⟩
              rw [hX] at d0
              have hsu : flatR (atL left) (atL left) (j + 1) = flatR (atL left) (atL left) j ++ [.int .i64 xv, .int .i64 xv] := by rw [flatR_succ, hX]
              have hbl := World.block_lt_of_cell? w5 _ d0
              have HS := Lib.hid (show ∀ Z, Below w5.heap.size w5 Z → Z.cell? ⟨b', o' + j, none⟩ = some (.int .i64 xv) from fun Z hZ => (hZ.cell hbl).trans d0)
              have hfs := flatR_set (atL left) (atL left) (n := j + 1) (i := j) (by omega) xv xv
              have hpu : putN (atL left) j xv = atL left := by funext q; unfold putN; by_cases e : q = j; rw [if_pos e, e, hX]; rw [if_neg e]
              rw [hpu] at hfs
              have hfa := flatR_at (atL left) (atL left) (n := j + 1) (i := j) (by omega)
              rw [hX] at hfa
              have HSU := Lib.hid hsu
              have HFS := Lib.hid hfs
              have HFA := Lib.hid hfa
              clear hX d0 hsu hfs hpu hfa
              have d0 := HS.out _ HBJ.out
              have i1 : (0 : Int) ≤ (j : Int) := by omega
              have i2 : (j : Int) < (left.length : Int) := by omega
              go_wp2_with fail
              refine wp_region_held_drew (S := fun X => X.cell? ⟨b', o' + j, none⟩ = some (.int .i64 xv)) (by kernel_rfl) (d0) (fun hS0 => ?_)
              refine tkH 0 ⟨some 48, .move (.tmp 10), 95, "ref.go:156", #[], none⟩ (v := ?_) hS0 ?_ ?_
              rotate_left
              · intro X x0; go_simp; try with_reducible rfl
              simp only [Act.put, List.setIfInBounds_toArray, List.set_cons_zero, List.set_cons_succ, Array.toArray_toList]
              refine tkH 1 ⟨some 49, .move (.tmp 12), 27, "ref.go:156", #[], none⟩ (v := ?_) hS0 ?_ ?_
              rotate_left
              · intro X x0; go_simp; try with_reducible rfl
              simp only [Act.put, List.setIfInBounds_toArray, List.set_cons_zero, List.set_cons_succ, Array.toArray_toList]
              refine tkH 2 ⟨some 50, .move (.tmp 16), 3, "ref.go:156", #[], none⟩ (v := ?_) hS0 ?_ ?_
              rotate_left
              · intro X x0; go_simp; try with_reducible rfl
              simp only [Act.put, List.setIfInBounds_toArray, List.set_cons_zero, List.set_cons_succ, Array.toArray_toList]
              refine tkH 3 ⟨some 51, .indexAddr 27 (.tmp 49) (.tmp 50), 0, "ref.go:156", #[⟨1, .data⟩, ⟨2, .data⟩], none⟩ (v := ?_) hS0 ?_ ?_
              rotate_left
              · intro X x0; go_simp; try with_reducible rfl
              simp only [Act.put, List.setIfInBounds_toArray, List.set_cons_zero, List.set_cons_succ, Array.toArray_toList]
              refine tkH 4 ⟨some 52, .load 3 (.tmp 51), 3, "ref.go:156", #[⟨3, .data⟩], none⟩ (v := ?_) hS0 ?_ ?_
              rotate_left
              · intro X x0; go_simp; try with_reducible rfl
              simp only [Act.put, List.setIfInBounds_toArray, List.set_cons_zero, List.set_cons_succ, Array.toArray_toList]
              refine tkH 5 ⟨some 53, .move (.tmp 12), 27, "ref.go:156", #[], none⟩ (v := ?_) hS0 ?_ ?_
              rotate_left
              · intro X x0; go_simp; try with_reducible rfl
              simp only [Act.put, List.setIfInBounds_toArray, List.set_cons_zero, List.set_cons_succ, Array.toArray_toList]
              refine tkH 6 ⟨some 54, .move (.tmp 16), 3, "ref.go:156", #[], none⟩ (v := ?_) hS0 ?_ ?_
              rotate_left
              · intro X x0; go_simp; try with_reducible rfl
              simp only [Act.put, List.setIfInBounds_toArray, List.set_cons_zero, List.set_cons_succ, Array.toArray_toList]
              refine tkH 7 ⟨some 55, .indexAddr 27 (.tmp 53) (.tmp 54), 0, "ref.go:156", #[⟨5, .data⟩, ⟨6, .data⟩], none⟩ (v := ?_) hS0 ?_ ?_
              rotate_left
              · intro X x0; go_simp; try with_reducible rfl
              simp only [Act.put, List.setIfInBounds_toArray, List.set_cons_zero, List.set_cons_succ, Array.toArray_toList]
              refine tkH 8 ⟨some 56, .load 3 (.tmp 55), 3, "ref.go:156", #[⟨7, .data⟩], none⟩ (v := ?_) hS0 ?_ ?_
              rotate_left
              · intro X x0; go_simp; try with_reducible rfl
              simp only [Act.put, List.setIfInBounds_toArray, List.set_cons_zero, List.set_cons_succ, Array.toArray_toList]
              refine tkH 9 ⟨some 57, .build 23 #[(0, .tmp 52), (1, .tmp 56)], 23, "ref.go:156", #[⟨4, .data⟩, ⟨8, .data⟩], none⟩ (v := ?_) hS0 ?_ ?_
              rotate_left
              · intro X x0; go_simp; try with_reducible rfl
              simp only [Act.put, List.setIfInBounds_toArray, List.set_cons_zero, List.set_cons_succ, Array.toArray_toList]
              refine wpAnyH_ready (rs := [10]) (by kernel_rfl) (by simp) (AllReadyH.cons (o := ⟨some 58, .buildSlice 95 1 #[(0, .tmp 57)], 95, "ref.go:156", #[⟨9, .data⟩], none⟩) rfl (fun K hK => ?_) AllReadyH.nil)
              go_simp
              have hbq : Below wr.heap.size wr (wr.drew.alloc (.cells #[.int .i64 xv, .int .i64 xv] 23)) := (Below.refl _ wr).drew.alloc (Nat.le_refl _) _
              refine hK.out _ _ ((HS.out _ (HBJ.out.trans (hbq.mono HBJ.out.size)))) (fun hS1 => ?_)
              clear hS0 hK K
              refine wpAnyH_ready (rs := [11]) (by kernel_rfl) (by simp) (AllReadyH.cons (o := ⟨some 59, .call ⟨.builtin .append, #[.tmp 48, .tmp 58], #[95, 95]⟩, 95, "ref.go:156", #[⟨0, .data⟩, ⟨10, .data⟩], none⟩) rfl (fun K hK => ?_) AllReadyH.nil)
              refine step_append_lies _ (by rfl) _ _ _ (by rfl) w5.heap.size 23 i0 _ 2 16 Try.underlying95 hi0.out hz0.out hz1.out hz2.out rfl (by omega) _ j _ (by rfl) (show ((wr.alloc (.cells #[.int .i64 xv, .int .i64 xv] 23)).drew).ownsRow w5.heap.size 23 2 _ j (flatR (atL left) (atL left) j) from own_drew_alloc HOW.out (.cells #[.int .i64 xv, .int .i64 xv] 23)) ⟨wr.heap.size, 0, none⟩ 1 1 [.int .i64 xv, .int .i64 xv] (by rfl) (by rfl) (World.news_of_block (cs := #[.int .i64 xv, .int .i64 xv]) (t := 23) (fr := (0, 0)) (Go.heap_alloc_new wr.drew (.cells #[.int .i64 xv, .int .i64 xv] 23))) (by simp [Value.oneCell']) (by omega) (by unfold maxLen; omega) (by omega) (by simp; omega) (wr.heap.size + 1) (by simp) ?_
              intro gg cap' w7 hown7 hgrow hat hlt7
              have HB7 := Lib.hid (HBJ.out.trans ((hbq.mono HBJ.out.size).trans (below_of_grown hgrow (own_drew_alloc HOW.out _) (Nat.le_refl _) (by simp; omega))))
              have HO7 := Lib.hid (show w7.ownsRow w5.heap.size 23 2 (.slice (some ⟨gg, 0, none⟩) (j + 1) cap') (j + 1) (flatR (atL left) (atL left) (j + 1)) by rw [HSU.out]; exact hown7)
              clear hown7 hgrow hat hlt7 hbq
              refine hK.out _ _ ((HS.out _ HB7.out)) (fun hS2 => ?_)
              clear hS1 hK K
              simp only [Act.put, List.setIfInBounds_toArray, List.set_cons_zero, List.set_cons_succ, Array.toArray_toList]
              refine tkH 12 ⟨some 10, .assign (.tmp 59), 95, "ref.go:156", #[⟨11, .data⟩, ⟨11, .chain⟩, ⟨0, .phase⟩, ⟨1, .phase⟩, ⟨2, .phase⟩, ⟨3, .phase⟩, ⟨4, .phase⟩, ⟨5, .phase⟩, ⟨6, .phase⟩, ⟨7, .phase⟩, ⟨8, .phase⟩, ⟨9, .phase⟩, ⟨10, .phase⟩, ⟨11, .phase⟩], none⟩ (v := ?_) hS2 ?_ ?_
              rotate_left
              · intro X x0; go_simp; try with_reducible rfl
              simp only [Act.put, List.setIfInBounds_toArray, List.set_cons_zero, List.set_cons_succ, Array.toArray_toList]
              refine wpAnyH_done (by kernel_rfl) ?_ _
              clear hS2
              have g0 := (own_cell2 HO7.out).1 _ _ HFA.out.1
              have g1 := (own_cell2 HO7.out).1 _ _ HFA.out.2
              have z0 := (own_cell2 HO7.out).2 (j * 2)
              have z1 := (own_cell2 HO7.out).2 (j * 2 + 1)
              have e0 := HS.out _ HB7.out
              have ij : (j : Int) < ((j + 1 : Nat) : Int) := by omega
              have ij2 : (j : Int) < (j : Int) + 1 := by omega
              go_wp2_with fail
              go_region
              have hown8 := own_setS (own_setS HO7.out (j * 2) (.int .i64 xv)) (j * 2 + 1) (.int .i64 xv)
              rw [HFS.out] at hown8
              have hgl7 := (HO7.out.lt gg rfl).1
              have hb8 : Below w5.heap.size w5 ((w7.setCell ⟨gg, j * 2, none⟩ (.int .i64 xv)).setCell ⟨gg, j * 2 + 1, none⟩ (.int .i64 xv)) := (HB7.out.setCell hgl7 _).setCell hgl7 _
              generalize (w7.setCell ⟨gg, j * 2, none⟩ (.int .i64 xv)).setCell ⟨gg, j * 2 + 1, none⟩ (.int .i64 xv) = w8 at hown8 hb8 ⊢
              have HO8 := Lib.hid (hown8.kept (Go_grown_of_below ((Below.refl _ w8).drew)) (own_none _))
              have HB8 := Lib.hid hb8.drew
              clear hown8 hb8 g0 g1 z0 z1 e0 hgl7
              go_wp2_with fail
              go_roundw
              case rel => exact ⟨j + 1, by omega, by go_num, HO8.out, HB8.out⟩
              case measure => simp [intOf]; omega
            · have hlj' : decide ((j : Int) < (left.length : Int)) = false := by simpa using hlj
              obtain rfl : j = left.length := by omega
              have hll := HLL.out
              rcases HOW.out.2 with ⟨_, h0⟩ | ⟨g', cap', cur, rfl, hge, _⟩
              · omega
              · have hfr : flatR (atL left) (atL left) left.length = flatR (fun i => nOil s (atL c) (atL k) m (i + 1)) (fun i => nOil s (atL c) (atL k) m (i + 1)) s.ns.length := by
                  rw [hll]
                  exact flatR_congr fun i hi => ⟨HNO.out i hi, HNO.out i hi⟩
                have hO9 := HOW.out.lower (base' := Bp + 1) (by omega)
                rw [hfr, hll] at hO9
                have hrg := RgTo.first (s := s) (c := atL c) (k := atL k) (q := nAg s (atL c) (atL k) dips out) HNONE.out HAG.out
                have hs9 := (HBJ.out.block Bs (Array.getElem?_eq_some_iff.1 HN05.out).1).trans HN05.out
                have hp9 := (HBJ.out.block Bp (Array.getElem?_eq_some_iff.1 HN15.out).1).trans HN15.out
                have HF9 := Lib.hid (And.intro hO9 (And.intro hrg (And.intro hs9 hp9)))
                have HLL2 := Lib.hid hll
                clear hO9 hrg hs9 hp9 hfr hll
                go_wp2_with fail
                go_roundw
                case rel => exact ⟨m + 1, by omega, by go_num, HF9.out.2.2.1, HF9.out.2.2.2, HB5.out.trans (HBJ.out.mono HB5.out.size), .inr ⟨g', cap', _, _, by rw [HLL2.out], HF9.out.2.1, by rw [HLL2.out]; exact HF9.out.1⟩⟩
                case measure => simp [intOf]; omega
        · subst h1
          have HG := Lib.hid h2
          have hgl := h3.lt g rfl
          have hO5 := h3.kept (Go_grown_of_below HX5.out) (own_none _)
          have hll := HLL.out
          obtain ⟨gl, hL1, hgl2⟩ : ∃ gl, L1 = some ⟨gl, 0, none⟩ ∧ w2.heap.size ≤ gl := by
            rcases HLO.out.2 with ⟨_, h0⟩ | ⟨g', cap', cur, he, hge, _⟩
            · omega
            · simp only [Value.slice.injEq] at he
              exact ⟨g', he.1, hge⟩
          subst hL1
          have hlo5 := (HLO.out.kept (Go_grown_of_below (show Below w4.heap.size w4 w5 from HW45.out)) (own_none _))
          have hglt := (hlo5.lt gl rfl).2
          have HLC := Lib.hid (fun j (hj : j < left.length) => (own_cell1 hlo5).1 j (.int .i64 (atL left j)) (by rw [List.getElem?_map, List.getElem?_eq_getElem hj, atL_at hj]; rfl))
          have HO5 := Lib.hid hO5
          have hz5 : 0 < s.ns.length := hpos
          have hneg : gl ≠ g := by omega
          have hn0' : ((s.ns.length : Int) == 0) = false := beq_false_of_ne (by omega)
          have hst : flatR (lowTo L left 0) (highTo H left 0) left.length = flatR L H s.ns.length := by
            rw [hll]; exact flatR_congr fun i hi => ⟨by simp [lowTo], by simp [highTo]⟩
          have HST := Lib.hid hst
          have HLL2 := Lib.hid hll
          clear h2 h3 hO5 hlo5 hst hll
          go_wp2_with fail
          go_loopw [10, 16] (RJRel left L H (Bp + 1) g cap w5) (fun _ i _ => left.length - (intOf i).toNat)
          case atStart => exact ⟨0, by omega, rfl, by rw [HLL2.out], by rw [HST.out, HLL2.out]; exact HO5.out, fun _ _ _ => rfl, Nat.le_refl _, rfl, rfl, rfl⟩
          case round =>
            rename_i wq
            obtain ⟨j, hj, rfl, rfl, hown, hblk, hsz, hos, hta, hou⟩ := hrel
            have HOW := Lib.hid hown
            have HBK := Lib.hid hblk
            have HXX := Lib.hid (And.intro hos (And.intro hta hou))
            clear hown hblk hos hta hou
            by_cases hlj : j < left.length
            · have hlj' : decide ((j : Int) < (left.length : Int)) = true := by simpa using hlj
              have hd := HLC.out j hlj
              have d0 : wr.cell? ⟨gl, j, none⟩ = some (.int .i64 (atL left j)) := by
                have := HBK.out gl hneg (by omega)
                simp only [World.cell?, this]; simpa [World.cell?] using hd
              have hfa := flatR_at (lowTo L left j) (highTo H left j) (n := left.length) (i := j) hlj
              rw [show lowTo L left j j = L j by simp [lowTo], show highTo H left j j = H j by simp [highTo]] at hfa
              have g0 := (own_cell2 HOW.out).1 _ _ hfa.1
              have g1 := (own_cell2 HOW.out).1 _ _ hfa.2
              have z0 := (own_cell2 HOW.out).2 (j * 2)
              have z1 := (own_cell2 HOW.out).2 (j * 2 + 1)
              have hset := flatR_set (lowTo L left j) (highTo H left j) (n := left.length) (i := j) hlj (min (L j) (atL left j)) (max (H j) (atL left j))
              rw [lowTo_put, highTo_put] at hset
              obtain ⟨xv, hxv⟩ : ∃ x, atL left j = x := ⟨_, rfl⟩
              obtain ⟨a, ha⟩ : ∃ x, L j = x := ⟨_, rfl⟩
              obtain ⟨b, hb⟩ : ∃ x, H j = x := ⟨_, rfl⟩
              rw [hxv] at d0 hset
              rw [ha] at g0 hset
              rw [hb] at g1 hset
              have HSET := Lib.hid hset
              have i1 : (0 : Int) ≤ (j : Int) := by omega
              have i2 : (j : Int) < (left.length : Int) := by omega
              have e1 : (if xv < a then xv else a) = min a xv := by split <;> omega
              have e2 : (if b < xv then xv else b) = max b xv := by split <;> omega
              have E1 := Lib.hid e1
              have E2 := Lib.hid e2
              clear hset hd hfa hxv ha hb e1 e2
              go_wp2_with fail
              go_region
              rw [E1.out, E2.out]
              have hown8 := own_setS (own_setS HOW.out (j * 2) (.int .i64 (min a xv))) (j * 2 + 1) (.int .i64 (max b xv))
              rw [HSET.out] at hown8
              have hbk : ∀ b', b' ≠ g → b' < w5.heap.size → ((wr.setCell ⟨g, j * 2, none⟩ (.int .i64 (min a xv))).setCell ⟨g, j * 2 + 1, none⟩ (.int .i64 (max b xv))).heap[b']? = w5.heap[b']? := fun b' h1 h2 => ((Below.heap_setCell _ _ _ _ h1).trans (Below.heap_setCell _ _ _ _ h1)).trans (HBK.out b' h1 h2)
              have hsz8 : w5.heap.size ≤ ((wr.setCell ⟨g, j * 2, none⟩ (.int .i64 (min a xv))).setCell ⟨g, j * 2 + 1, none⟩ (.int .i64 (max b xv))).heap.size := by simp [World.setCell]; exact hsz
              have hxx8 : ((wr.setCell ⟨g, j * 2, none⟩ (.int .i64 (min a xv))).setCell ⟨g, j * 2 + 1, none⟩ (.int .i64 (max b xv))).os = w5.os ∧ ((wr.setCell ⟨g, j * 2, none⟩ (.int .i64 (min a xv))).setCell ⟨g, j * 2 + 1, none⟩ (.int .i64 (max b xv))).tape = w5.tape ∧ ((wr.setCell ⟨g, j * 2, none⟩ (.int .i64 (min a xv))).setCell ⟨g, j * 2 + 1, none⟩ (.int .i64 (max b xv))).output = w5.output := HXX.out
              generalize (wr.setCell ⟨g, j * 2, none⟩ (.int .i64 (min a xv))).setCell ⟨g, j * 2 + 1, none⟩ (.int .i64 (max b xv)) = w8 at hown8 hbk hsz8 hxx8 ⊢
              have HO8 := Lib.hid (hown8.kept (Go_grown_of_below ((Below.refl _ w8).drew)) (own_none _))
              have HK8 := Lib.hid hbk
              have HX8 := Lib.hid hxx8
              clear hown8 hbk hxx8 g0 g1 z0 z1 d0
              go_wp2_with fail
              go_roundw
              case rel => exact ⟨j + 1, by omega, by go_num, rfl, HO8.out, HK8.out, hsz8, HX8.out.1, HX8.out.2.1, HX8.out.2.2⟩
              case measure => simp [intOf]; omega
            · have hlj' : decide ((j : Int) < (left.length : Int)) = false := by simpa using hlj
              obtain rfl : j = left.length := by omega
              have hll := HLL2.out
              have hfr : flatR (lowTo L left left.length) (highTo H left left.length) left.length = flatR (fun i => min (L i) (nOil s (atL c) (atL k) m (i + 1))) (fun i => max (H i) (nOil s (atL c) (atL k) m (i + 1))) s.ns.length := by
                rw [hll]
                exact flatR_congr fun i hi => ⟨by simp only [lowTo]; rw [if_pos hi, HNO.out i hi], by simp only [highTo]; rw [if_pos hi, HNO.out i hi]⟩
              have hO9 := HOW.out
              rw [hfr, hll] at hO9
              have hrg := HG.out.take HAG.out
              have lBs := (Array.getElem?_eq_some_iff.1 HN05.out).1
              have lBp5 := (Array.getElem?_eq_some_iff.1 HN15.out).1
              have hs9 := (HBK.out Bs (by omega) lBs).trans HN05.out
              have hp9 := (HBK.out Bp (by omega) lBp5).trans HN15.out
              have hbw : Below w.heap.size w wr := HB5.out.trans ⟨HXX.out.1, HXX.out.2.1, HXX.out.2.2, hsz, fun k' hk' => HBK.out k' (by omega) (by have := HB5.out.size; omega)⟩
              have HF9 := Lib.hid (And.intro hO9 (And.intro hrg (And.intro hs9 (And.intro hp9 hbw))))
              clear hO9 hrg hs9 hp9 hbw hfr hll
              go_wp2_with fail
              go_roundw
              case rel => exact ⟨m + 1, by omega, by go_num, HF9.out.2.2.1, HF9.out.2.2.2.1, HF9.out.2.2.2.2, .inr ⟨g, cap, _, _, by rw [HLL2.out], HF9.out.2.1, by rw [HLL2.out]; exact HF9.out.1⟩⟩
              case measure => simp [intOf]; omega
    · have hlt' : decide ((m : Int) < (manyN s : Int)) = false := by simpa using hlt
      obtain rfl : m = manyN s := by omega
      rcases HF.out with ⟨h1, h2⟩ | ⟨g, cap, L, H, h1, h2, h3⟩
      · subst h1
        have HNONE := Lib.hid h2
        clear h2
        go_wp2_with fail
        go_ret2
        exact ⟨HB2.out, _, .inl ⟨rfl, HNONE.out⟩, .inl ⟨rfl, rfl⟩⟩
      · subst h1
        have HG := Lib.hid h2
        have HO := Lib.hid (h3.kept (Go_grown_of_below HX2.out) (own_none _))
        have hg1 := (h3.lt g rfl).1
        have hd1 : decide ((s.ns.length : Int) > 0) = true := by simp; omega
        have hd2 : decide ((0 : Int) < (s.ns.length : Int)) = true := by simp; omega
        clear h2 h3
        go_wp2_with fail
        go_ret2
        exact ⟨HB2.out, _, .inr ⟨g, cap, L, H, rfl, HG.out, HO.out.lower (by omega)⟩, .inr ⟨by simp, rfl⟩⟩

theorem shl_at12 {p : Nat} (hp : p ≤ 12) : wrap64 (2 ^ p) = ((2 ^ p : Nat) : Int) := by
  have key : ∀ y : Fin 13, wrap64 (2 ^ y.1) = ((2 ^ y.1 : Nat) : Int) := by decide +kernel
  exact key ⟨p, by omega⟩


theorem lessB_bef (a b : List Int) : lessB a b = (decide (a.length < b.length) || (decide (a.length = b.length) && befB a b)) := by
  unfold lessB
  by_cases h : a.length = b.length
  · rw [if_pos h, befB_lex h]; simp [h]
  · rw [if_neg h]; simp [h]
set_option maxHeartbeats 1000000 in
theorem shorter_any (A1 A2 : Option Addr) (c1 c2 : Nat) (a b : List Int) (w : World) (ha : IntsAt w (.slice A1 a.length c1) a) (hb : IntsAt w (.slice A2 b.length c2) b) (hla : a.length ≤ 1000000) (hlb : b.length ≤ 1000000) :
    Calls Try.prog 49 #[.slice A1 a.length c1, .slice A2 b.length c2] w fun e w' => e = .returned (.bool (lessB a b)) ∧ Below w.heap.size w w' := by
  have HL := Lib.hid (lessB_bef a b)
  have hbf := Lib.hid (before_any _ _ a b w ha hb hla hlb)
  by_cases h1 : a.length < b.length
  · have d1 : decide ((a.length : Int) < (b.length : Int)) = true := by simp; omega
    have HF := Lib.hid (show lessB a b = true by rw [HL.out]; simp [h1])
    clear ha hb
    go_enter Try.func49, Try.ntmps49
    go_wp2_with fail
    go_ret
    exact ⟨by rw [HF.out]; rfl, Below.refl _ _⟩
  · by_cases h2 : a.length = b.length
    · have d1 : decide ((a.length : Int) < (b.length : Int)) = false := by simp; omega
      have d2 : ((a.length : Int) == (b.length : Int)) = true := by simp [h2]
      have HF := Lib.hid (show lessB a b = befB a b by rw [HL.out]; simp [h2])
      have H2 := Lib.hid h2
      obtain ⟨R, hR⟩ : ∃ R, befB a b = R := ⟨_, rfl⟩
      rw [hR] at hbf HF
      clear ha hb h2 hR
      go_enter Try.func49, Try.ntmps49
      go_wp2_with fail
      refine hbf.out.mono ?_
      rintro e w' ⟨rfl, hbe⟩
      go_wp2_with fail
      go_ret
      exact ⟨by rw [HF.out]; rfl, hbe⟩
    · have d1 : decide ((a.length : Int) < (b.length : Int)) = false := by simp; omega
      have d2 : ((a.length : Int) == (b.length : Int)) = false := by simp; omega
      have HF := Lib.hid (show lessB a b = false by rw [HL.out]; simp [h1, h2])
      clear ha hb
      go_enter Try.func49, Try.ntmps49
      go_wp2_with fail
      go_ret
      exact ⟨by rw [HF.out]; rfl, Below.refl _ _⟩

def bitsK (bits k : Nat) : List Int := ((List.range k).filter bits.testBit).map fun i : Nat => (i : Int)
theorem bitsK_succ (bits k : Nat) : bitsK bits (k + 1) = if bits.testBit k then bitsK bits k ++ [(k : Int)] else bitsK bits k := by
  unfold bitsK
  rw [List.range_succ, List.filter_append, List.map_append]
  cases h : bits.testBit k <;> simp [h]
theorem bitsK_len (bits k : Nat) : (bitsK bits k).length ≤ k := by
  unfold bitsK
  rw [List.length_map]
  exact Nat.le_trans (List.length_filter_le _ _) (by simp)
theorem bitsK_end {bits k : Nat} (h : bits / 2 ^ k = 0) (hk : k ≤ 16) (hb : bits < 65536) : bitsK bits k = bitsL bits := by
  have key : ∀ m, bitsK bits (k + m) = bitsK bits k := by
    intro m
    induction m with
    | zero => rfl
    | succ m ih =>
      rw [show k + (m + 1) = k + m + 1 by omega, bitsK_succ, ih]
      have : bits.testBit (k + m) = false := by
        rw [Nat.testBit_eq_decide_div_mod_eq, Nat.pow_add, ← Nat.div_div_eq_div_mul, h]; simp
      rw [this]; simp
  have := key (16 - k)
  rw [show k + (16 - k) = 16 by omega] at this
  rw [← this]; rfl
def BRel9 (bits : Nat) (w : World) (v i : Value) (wr : World) : Prop :=
  ∃ k : Nat, k ≤ 16 ∧ i = .int .i64 k ∧ wr.ownsRow w.heap.size 3 1 v (bitsK bits k).length ((bitsK bits k).map (Value.int .i64)) ∧ Below w.heap.size w wr
theorem div_int (b k : Nat) : ((b : Int) / 2 ^ k) = ((b / 2 ^ k : Nat) : Int) := by
  have h2 : ((2 : Int) ^ k) = ((2 ^ k : Nat) : Int) := by simp
  rw [h2, ← Int.natCast_ediv]

set_option maxRecDepth 100000 in
set_option maxHeartbeats 4000000 in
theorem refBits_any (bits : Nat) (w : World) (hbits : bits < 65536) :
    Calls Try.prog 76 #[.int .i64 bits] w fun e w' => ∃ A cp, e = .returned (.slice A (bitsL bits).length cp) ∧ IntsAt w' (.slice A (bitsL bits).length cp) (bitsL bits) ∧ Below w.heap.size w w' := by
  go_enter Try.func76, Try.ntmps76
  go_wp2_with fail
  go_loopw [3, 4] (BRel9 bits w) (fun _ i _ => 17 - (intOf i).toNat)
  case atStart => exact ⟨0, by omega, rfl, World.ownsRow_nil _ _ _ _, Below.refl _ _⟩
  case round =>
    obtain ⟨k, hk, rfl, hown, hBe⟩ := hrel
    have HOW := Lib.hid hown
    have HBe := Lib.hid hBe
    have hsz := hBe.size
    have hdi := div_int bits k
    by_cases hz : bits / 2 ^ k = 0
    · have hd1 : decide ((bits : Int) / 2 ^ k > 0) = false := by rw [hdi, hz]; rfl
      have hd2 : decide (0 < (bits : Int) / 2 ^ k) = false := by rw [hdi, hz]; rfl
      have hd3 : (bits : Int) / 2 ^ k = 0 := by rw [hdi, hz]; rfl
      have he := bitsK_end hz hk hbits
      have hI : IntsAt wr u3 (bitsL bits) := by rw [← he]; exact IntsAt.of_own hown
      obtain ⟨Ax, cx, rfl, _⟩ := id hI
      have HI := Lib.hid hI
      clear hown hBe hI he hz hdi
      go_wp2_with fail
      go_ret
      exact ⟨Ax, cx, rfl, HI.out, HBe.out⟩
    · have hk16 : k < 16 := by
        refine Nat.lt_of_not_le fun h => hz ?_
        have : k = 16 := by omega
        subst this
        exact Nat.div_eq_of_lt (by simpa using hbits)
      obtain ⟨D, hD⟩ : ∃ D, bits / 2 ^ k = D := ⟨_, rfl⟩
      have hD0 : 0 < D := by omega
      have hd1 : decide ((bits : Int) / 2 ^ k > 0) = true := by rw [hdi, hD]; simpa using hD0
      have hd2 : decide (0 < (bits : Int) / 2 ^ k) = true := by rw [hdi, hD]; simpa using hD0
      have hbit := bit_one bits k
      have hbit2 : (((bits : Int) / 2 ^ k) % 2 == 1) = bits.testBit k := by rw [← hbit, Int.tmod_eq_emod_of_nonneg (by rw [hdi]; omega)]
      have hsn := bitsK_succ bits k
      have hln := bitsK_len bits k
      clear hown hBe hz hdi hD hD0
      cases htb : bits.testBit k with
      | false =>
        rw [htb] at hbit hbit2 hsn
        have HSN := Lib.hid hsn
        clear hsn htb
        go_wp2_with fail
        go_roundw
        case rel => exact ⟨k + 1, by omega, by go_num, by rw [HSN.out]; exact HOW.out, HBe.out⟩
        case measure => simp [intOf]; omega
      | true =>
        rw [htb] at hbit hbit2 hsn
        have HSN := Lib.hid hsn
        clear hsn htb
        go_wp2_with (at_builtin; refine wpList_app_int rfl _ _ rfl w.heap.size u3 (bitsK bits k) (k : Int) wr.heap.size rfl (HOW.out.alloc _) rfl (Go.heap_alloc_new wr _) (by omega) (by simp; omega) _ rfl ?_)
        intro g cap W6 hown6 hgrow hg6 hlt6
        have hx6 : Below w.heap.size wr W6 := ((Below.refl _ wr).alloc (by omega) _).trans (below_of_grown hgrow (HOW.out.alloc _) (Nat.le_refl _) (by simp; omega))
        have HB6 := Lib.hid (HBe.out.trans (hx6.mono (Nat.le_refl _)))
        have HOO6 := Lib.hid (show W6.ownsRow w.heap.size 3 1 (.slice (some ⟨g, 0, none⟩) ((bitsK bits k).length + 1) cap) (bitsK bits (k + 1)).length ((bitsK bits (k + 1)).map (Value.int .i64)) by rw [HSN.out]; simp only [if_true]; simpa using hown6)
        clear hown6 hgrow hg6 hlt6 hx6
        go_wp2_with fail
        go_roundw
        case rel => exact ⟨k + 1, by omega, by go_num, HOO6.out, HB6.out⟩
        case measure => simp [intOf]; omega
def RLv (p : List Int → Bool) (n N : Nat) (w : World) (Bs Bp : Nat) (os op : Obj) (v i : Value) (wr : World) : Prop :=
  ∃ (m : Nat) (best : List Int) (Ab : Option Addr) (cb : Nat), m + 1 ≤ N ∧ i = .int .i64 m ∧ v = .slice Ab best.length cb ∧ IntsAt wr (.slice Ab best.length cb) best ∧ RBest p n m best ∧ wr.heap[Bs]? = some os ∧ wr.heap[Bp]? = some op ∧ Below w.heap.size w wr
theorem nAg_iff {s : St} {c k : Nat → Int} {dips : List Dp} {out : Nat} (hs : StOk s) (hd : ∀ d ∈ dips, dipB s d = true) (hl : dips.length ≤ 16) : (∀ n, n < manyN s → nAg s c k dips out n = false) ↔ keptB s c k dips (bitsL out) = false := by
  constructor
  · intro h
    cases e : keptB s c k dips (bitsL out) with
    | false => rfl
    | true => exact absurd ((keptB_iff hs).1 e) (nAg_none hs hd hl h)
  · intro h n hn
    cases e : nAg s c k dips out n with
    | false => rfl
    | true =>
      have := (keptB_iff hs).2 (nAg_cons hs hd hl hn e)
      rw [h] at this; cases this
/-- Oil, with its answer as a Bool. -/
theorem roil_b (s : St) (A : Option Addr) (cp : Nat) (Ac Ak : Option Addr) (cc ck : Nat) (c k : List Int) (Ad : Option Addr) (cd : Nat) (dips : List Dp) (out : Nat) (w : World) (hok : planL s c k = 0) (hout : out < 65536) (hdv : ∀ d ∈ dips, dipB s d = true) (hdl : dips.length ≤ 16) (hA : NtsAt w A s.ns) (hc : IntsAt w (.slice Ac c.length cc) c) (hk : IntsAt w (.slice Ak k.length ck) k) (hd : DpsAt w Ad dips) :
    Calls Try.prog 53 #[.agg #[.int .i64 s.cap, .int .i64 s.can, .int .i64 s.sl, .int .i64 s.sh, .slice A s.ns.length cp], .agg #[.slice Ac c.length cc, .slice Ak k.length ck], .slice Ad dips.length cd, .int .i64 out] w fun e w' => ∃ v, e = .returned (.tuple #[v, .bool (keptB s (atL c) (atL k) dips (bitsL out))]) ∧ Below w.heap.size w w' :=
  (roil_any s A cp Ac Ak cc ck c k Ad cd dips out w hok hout hdv hdl hA hc hk hd).mono fun e w' ⟨h1, v, h2, h3⟩ => by
    obtain ⟨hs, _, _, hp⟩ := planL_zero.1 hok
    refine ⟨v, ?_, h1⟩
    rcases h2 with ⟨hv, hno⟩ | ⟨g, cap, L, H, hv, hr, _⟩
    · rcases h3 with ⟨_, he⟩ | ⟨hne, _⟩
      · rw [he, (nAg_iff hs hdv hdl).1 hno]
      · exact absurd hv hne
    · rcases h3 with ⟨hv2, _⟩ | ⟨_, he⟩
      · rw [hv] at hv2; simp at hv2
      · obtain ⟨n, hn, hq, _⟩ := hr.lo 0 hs.pos
        rw [he, (keptB_iff hs).2 (nAg_cons hs hdv hdl hn hq)]

set_option maxRecDepth 100000 in
set_option maxHeartbeats 4000000 in
theorem rleave_any (s : St) (A : Option Addr) (cp : Nat) (Ac Ak : Option Addr) (cc ck : Nat) (c k : List Int) (Ad : Option Addr) (cd : Nat) (dips : List Dp) (w : World) (hok : planL s c k = 0) (hdv : ∀ d ∈ dips, dipB s d = true) (hdl : dips.length ≤ 6) (hA : NtsAt w A s.ns) (hc : IntsAt w (.slice Ac c.length cc) c) (hk : IntsAt w (.slice Ak k.length ck) k) (hd : DpsAt w Ad dips) :
    Calls Try.prog 32 #[.agg #[.int .i64 s.cap, .int .i64 s.can, .int .i64 s.sl, .int .i64 s.sh, .slice A s.ns.length cp], .agg #[.slice Ac c.length cc, .slice Ak k.length ck], .slice Ad dips.length cd] w fun e w' => ∃ A1 c1, e = .returned (.slice A1 (leaveL s (atL c) (atL k) dips).length c1) ∧ IntsAt w' (.slice A1 (leaveL s (atL c) (atL k) dips).length c1) (leaveL s (atL c) (atL k) dips) ∧ Below w.heap.size w w' := by
  have HA := Lib.hid hA
  have HC := Lib.hid hc
  have HK := Lib.hid hk
  have HD := Lib.hid hd
  obtain ⟨hs, -, -, hp⟩ := planL_zero.1 hok
  have HOIL := Lib.hid (fun out W (ho : out < 65536) (hW : Below w.heap.size w W) => roil_b s A cp Ac Ak cc ck c k Ad cd dips out W hok ho hdv (by omega) (hA.keep hW (Nat.le_refl _)) (hc.keep hW (Nat.le_refl _)) (hk.keep hW (Nat.le_refl _)) (hd.keep hW (Nat.le_refl _)))
  have HFIN := Lib.hid (fun best (h : RBest (keptB s (atL c) (atL k) dips) dips.length (2 ^ dips.length - 1) best) => ref_leave hs hdl h)
  have P0 : 2 ^ dips.length ≤ 2 ^ 6 := Nat.pow_le_pow_right (by omega) hdl
  have P1 : 1 ≤ 2 ^ dips.length := Nat.two_pow_pos _
  have hsp := shl_at12 (p := dips.length) (by omega)
  have hst := RBest.start (keptB s (atL c) (atL k) dips) dips.length
  obtain ⟨N, hN⟩ : ∃ N : Nat, 2 ^ dips.length = N := ⟨_, rfl⟩
  have hsp2 : wrap64 (2 ^ dips.length) = (N : Int) := by rw [hsp, hN]
  rw [hN] at P0 P1 hst HFIN
  have HNN := Lib.hid hN
  obtain ⟨M, hM⟩ : ∃ M, N - 1 = M := ⟨_, rfl⟩
  rw [hM] at hst HFIN
  have hMN : M + 1 = N := by omega
  have wM : IntKind.i64.wrap ((N : Int) - 1) = (M : Int) := by rw [IntWalk.i64_in _ (by omega)]; omega
  have HB1 := Lib.hid (show Below w.heap.size w ((w.alloc (.cells #[.int .i64 s.cap, .int .i64 s.can, .int .i64 s.sl, .int .i64 s.sh, .slice A s.ns.length cp] 26)).alloc (.cells #[.slice Ac c.length cc, .slice Ak k.length ck] 29)) from ((Below.refl _ _).alloc (Nat.le_refl _) _).alloc (by simp) _)
  have HN1 := Lib.hid (show ((w.alloc (.cells #[.int .i64 s.cap, .int .i64 s.can, .int .i64 s.sl, .int .i64 s.sh, .slice A s.ns.length cp] 26)).alloc (.cells #[.slice Ac c.length cc, .slice Ak k.length ck] 29)).heap[w.heap.size]? = some (.cells #[.int .i64 s.cap, .int .i64 s.can, .int .i64 s.sl, .int .i64 s.sh, .slice A s.ns.length cp] 26 (0, 0)) from (Below.heap_alloc _ _ _ (by simp)).trans (heap_new_at _ _ _ rfl))
  have HP1 := Lib.hid (heap_alloc2 w (.cells #[.int .i64 s.cap, .int .i64 s.can, .int .i64 s.sl, .int .i64 s.sh, .slice A s.ns.length cp] 26) (.cells #[.slice Ac c.length cc, .slice Ak k.length ck] 29))
  have HST := Lib.hid hst
  clear hA hc hk hd hs hp hok hsp hN hM hst
  go_enter Try.func32, Try.ntmps32
  go_wp2_with fail
  generalize (w.alloc (.cells #[.int .i64 s.cap, .int .i64 s.can, .int .i64 s.sl, .int .i64 s.sh, .slice A s.ns.length cp] 26)).alloc (.cells #[.slice Ac c.length cc, .slice Ak k.length ck] 29) = w1 at HB1 HN1 HP1 ⊢
  obtain ⟨Bp, hBp⟩ : ∃ B, w.heap.size + 1 = B := ⟨_, rfl⟩
  obtain ⟨Bs, hBs⟩ : ∃ B, w.heap.size = B := ⟨_, rfl⟩
  rw [hBp] at HP1 ⊢
  rw [hBs] at HN1 ⊢
  have o1 : w.heap.size ≤ Bs := by omega
  have o2 : Bs < Bp := by omega
  clear hBp hBs
  refine (refBits_any M w1 (by omega)).mono ?_
  rintro e w2 ⟨A0, c0, rfl, hv0, hb⟩
  have HV0 := Lib.hid hv0
  have HB2 := Lib.hid (HB1.out.trans (hb.mono HB1.out.size))
  have HN2 := Lib.hid ((hb.block Bs (Array.getElem?_eq_some_iff.1 HN1.out).1).trans HN1.out)
  have HP2 := Lib.hid ((hb.block Bp (Array.getElem?_eq_some_iff.1 HP1.out).1).trans HP1.out)
  clear hv0 hb HB1 HN1 HP1
  go_wp2_with fail
  go_loopw [8, 9] (RLv (keptB s (atL c) (atL k) dips) dips.length N w Bs Bp (.cells #[.int .i64 s.cap, .int .i64 s.can, .int .i64 s.sl, .int .i64 s.sh, .slice A s.ns.length cp] 26 (0, 0)) (.cells #[.slice Ac c.length cc, .slice Ak k.length ck] 29 (0, 0))) (fun _ i _ => M - (intOf i).toNat)
  case atStart => exact ⟨0, _, A0, c0, by omega, rfl, rfl, HV0.out, HST.out, HN2.out, HP2.out, HB2.out⟩
  case round =>
    clear HV0 HB2 HN2 HP2 HST
    obtain ⟨m, best, Ab, cb, hm, rfl, rfl, hv, hrb, hns, hnp, hbe⟩ := hrel
    have hbl : best.length ≤ 1000 := by
      rcases hrb.ups.len with h | h
      · rw [h]; simp
      · omega
    have HV := Lib.hid hv
    have HRB := Lib.hid hrb
    have HNS := Lib.hid hns
    have HNP := Lib.hid hnp
    have HBE := Lib.hid hbe
    clear hv hrb hns hnp hbe
    by_cases hlt : m < M
    · have hlt' : decide ((m : Int) < (M : Int)) = true := by simpa using hlt
      have hbk := Lib.hid (refBits_any m wr (by omega))
      go_wp2_with fail
      refine hbk.out.mono ?_
      rintro e w3 ⟨Ax, cx, rfl, hx, hb⟩
      have hxl : (bitsL m).length ≤ 1000 := by
        rcases (bitsL_ups (n := 6) (bits := m) (by omega)).len with h | h
        · rw [h]; simp
        · omega
      have HX := Lib.hid hx
      have HV3 := Lib.hid (HV.out.keep hb (Nat.le_refl _))
      have HB3 := Lib.hid (HBE.out.trans (hb.mono HBE.out.size))
      have HN3 := Lib.hid ((hb.block Bs (Array.getElem?_eq_some_iff.1 HNS.out).1).trans HNS.out)
      have HP3 := Lib.hid ((hb.block Bp (Array.getElem?_eq_some_iff.1 HNP.out).1).trans HNP.out)
      have hsh := Lib.hid (shorter_any Ax Ab cx cb (bitsL m) best w3 HX.out HV3.out (by omega) (by omega))
      clear hx hb hbk HV HBE HNS HNP
      cases hlb : lessB (bitsL m) best with
      | false =>
        rw [hlb] at hsh
        have HLB := Lib.hid hlb
        clear hlb
        go_wp2_with fail
        refine hsh.out.mono ?_
        rintro e w4 ⟨rfl, hb⟩
        have HF := Lib.hid (And.intro (HV3.out.keep hb (Nat.le_refl _)) (And.intro ((hb.block Bs (Array.getElem?_eq_some_iff.1 HN3.out).1).trans HN3.out) (And.intro ((hb.block Bp (Array.getElem?_eq_some_iff.1 HP3.out).1).trans HP3.out) (HB3.out.trans (hb.mono HB3.out.size)))))
        clear hb hsh
        go_wp2_with fail
        go_roundw
        case rel => exact ⟨m + 1, best, Ab, cb, by omega, by go_num, rfl, HF.out.1, HRB.out.keep (.inl HLB.out), HF.out.2.1, HF.out.2.2.1, HF.out.2.2.2⟩
        case measure => simp [intOf]; omega
      | true =>
        rw [hlb] at hsh
        have HLB := Lib.hid hlb
        clear hlb
        go_wp2_with fail
        refine hsh.out.mono ?_
        rintro e w4 ⟨rfl, hb⟩
        have HV4 := Lib.hid (HV3.out.keep hb (Nat.le_refl _))
        have HX4 := Lib.hid (HX.out.keep hb (Nat.le_refl _))
        have HB4 := Lib.hid (HB3.out.trans (hb.mono HB3.out.size))
        have HN4 := Lib.hid ((hb.block Bs (Array.getElem?_eq_some_iff.1 HN3.out).1).trans HN3.out)
        have HP4 := Lib.hid ((hb.block Bp (Array.getElem?_eq_some_iff.1 HP3.out).1).trans HP3.out)
        obtain ⟨s0, s1, s2, s3, s4⟩ := cells5 HN4.out
        obtain ⟨p0, p1⟩ := cells2 HP4.out
        have ho := Lib.hid (HOIL.out m w4 (by omega) HB4.out)
        clear hb hsh
        cases hk : keptB s (atL c) (atL k) dips (bitsL m) with
        | false =>
          rw [hk] at ho
          have HKB := Lib.hid hk
          clear hk
          go_wp2_with fail
          refine ho.out.mono ?_
          rintro e w5 ⟨v5, rfl, hb⟩
          have HF := Lib.hid (And.intro (HV4.out.keep hb (Nat.le_refl _)) (And.intro ((hb.block Bs (Array.getElem?_eq_some_iff.1 HN4.out).1).trans HN4.out) (And.intro ((hb.block Bp (Array.getElem?_eq_some_iff.1 HP4.out).1).trans HP4.out) (HB4.out.trans (hb.mono HB4.out.size)))))
          clear hb ho s0 s1 s2 s3 s4 p0 p1
          go_wp2_with fail
          go_roundw
          case rel => exact ⟨m + 1, best, Ab, cb, by omega, by go_num, rfl, HF.out.1, HRB.out.keep (.inr HKB.out), HF.out.2.1, HF.out.2.2.1, HF.out.2.2.2⟩
          case measure => simp [intOf]; omega
        | true =>
          rw [hk] at ho
          have HKB := Lib.hid hk
          clear hk
          go_wp2_with fail
          refine ho.out.mono ?_
          rintro e w5 ⟨v5, rfl, hb⟩
          have HF := Lib.hid (And.intro (HX4.out.keep hb (Nat.le_refl _)) (And.intro ((hb.block Bs (Array.getElem?_eq_some_iff.1 HN4.out).1).trans HN4.out) (And.intro ((hb.block Bp (Array.getElem?_eq_some_iff.1 HP4.out).1).trans HP4.out) (HB4.out.trans (hb.mono HB4.out.size)))))
          clear hb ho s0 s1 s2 s3 s4 p0 p1
          go_wp2_with fail
          go_roundw
          case rel => exact ⟨m + 1, bitsL m, Ax, cx, by omega, by go_num, rfl, HF.out.1, HRB.out.turn (by rw [HNN.out]; omega) HLB.out HKB.out, HF.out.2.1, HF.out.2.2.1, HF.out.2.2.2⟩
          case measure => simp [intOf]; omega
    · have hlt' : decide ((m : Int) < (M : Int)) = false := by simpa using hlt
      obtain rfl : m = M := by omega
      have he := HFIN.out best HRB.out
      have HE := Lib.hid he
      clear he
      go_wp2_with fail
      go_ret
      exact ⟨Ab, cb, by rw [← HE.out]; rfl, by rw [← HE.out]; exact HV.out, HBE.out⟩
end Go.Proofs.Ytefhdcecbmgljaa

/-
  LampTrims: the reference's Lists, Dark and Trim; the walk.
-/
import Derived.Test.YtefhdcecbmgljaaOilC
import Derived.Test.YtefhdcecbmgljaaFewL
import Derived.Test.YtefhdcecbmgljaaRefH
import Derived.Test.YtefhdcecbmgljaaPicks
import Derived.Test.YtefhdcecbmgljaaLeaveQ
import Derived.Test.YtefhdcecbmgljaaRefI
import Derived.Test.YtefhdcecbmgljaaRefG
set_option linter.all false
namespace Go.Proofs.Ytefhdcecbmgljaa
open Go.RowKit Go.WalkArith

theorem sumTo_bd {f : Nat → Int} {n : Nat} {M : Int} (h : ∀ i, i < n → -M ≤ f i ∧ f i ≤ M) : -(M * n) ≤ sumTo f n ∧ sumTo f n ≤ M * n := by
  induction n with
  | zero => simp [sumTo]
  | succ n ih =>
    have h1 := ih fun i hi => h i (by omega)
    have h2 := h n (by omega)
    have h3 : M * ((n + 1 : Nat) : Int) = M * (n : Int) + M := by rw [show ((n + 1 : Nat) : Int) = (n : Int) + 1 by omega, Int.mul_add, Int.mul_one]
    simp only [sumTo]; omega
def LiRel (s : St) (l : List Int) (w : World) (Bs : Nat) (o : Obj) (n i : Value) (wr : World) : Prop := ∃ k : Nat, k ≤ s.ns.length ∧ i = .int .i64 k ∧ n = .int .i64 (sumTo (fun i => (ntAt s i).h * atL l i) k) ∧ wr.heap[Bs]? = some o ∧ Below w.heap.size w wr
set_option maxHeartbeats 1000000 in
theorem light_any (s : St) (A : Option Addr) (cp : Nat) (v : Value) (l : List Int) (w : World) (hok : StOk s) (hA : NtsAt w A s.ns) (hv : IntsAt w v l) (hl : l.length = s.ns.length) (hb : ∀ i, i < s.ns.length → 0 ≤ atL l i ∧ atL l i ≤ 4) :
    Calls Try.prog 41 #[.agg #[.int .i64 s.cap, .int .i64 s.can, .int .i64 s.sl, .int .i64 s.sh, .slice A s.ns.length cp], v] w fun e w' => e = .returned (.int .i64 (lightL s l)) ∧ Below w.heap.size w w' := by
  obtain ⟨Al, cap, rfl⟩ := hv.slice
  have HV := Lib.hid hv
  have HB := Lib.hid hb
  have HA := Lib.hid hA
  have HOK := Lib.hid hok
  have HL := Lib.hid hl
  have h6 := hok.len
  clear hv hb hA hok hl
  have HB0 := Lib.hid (show Below w.heap.size w (w.alloc (.cells #[.int .i64 s.cap, .int .i64 s.can, .int .i64 s.sl, .int .i64 s.sh, .slice A s.ns.length cp] 26)) from (Below.refl _ _).alloc (Nat.le_refl _) _)
  have HN0 := Lib.hid (Go.heap_alloc_new w (.cells #[.int .i64 s.cap, .int .i64 s.can, .int .i64 s.sl, .int .i64 s.sh, .slice A s.ns.length cp] 26))
  go_enter Try.func41, Try.ntmps41
  go_wp2_with fail
  generalize w.alloc (.cells #[.int .i64 s.cap, .int .i64 s.can, .int .i64 s.sl, .int .i64 s.sh, .slice A s.ns.length cp] 26) = w1 at HB0 HN0 ⊢
  obtain ⟨Bs, hBs⟩ : ∃ Bs, w.heap.size = Bs := ⟨_, rfl⟩
  rw [hBs] at HN0 ⊢
  have HBS := Lib.hid hBs
  clear hBs
  go_loopw [5, 6] (LiRel s l w Bs (.cells #[.int .i64 s.cap, .int .i64 s.can, .int .i64 s.sl, .int .i64 s.sh, .slice A s.ns.length cp] 26 (0, 0))) (fun _ i _ => s.ns.length - (intOf i).toNat)
  case atStart => exact ⟨0, by omega, rfl, rfl, HN0.out, HB0.out⟩
  case round =>
    obtain ⟨k, hk, rfl, rfl, hn, hbe⟩ := hrel
    have HN := Lib.hid hn
    have HBE := Lib.hid hbe
    obtain ⟨c0, c1, c2, c3, c4⟩ := cells5 hn
    clear hn hbe c0 c1 c2 c3
    by_cases hlt : k < s.ns.length
    · have hlt' : decide ((k : Int) < (s.ns.length : Int)) = true := by simpa using hlt
      have hll := HL.out
      obtain ⟨b, o, rfl, d0⟩ := (HV.out.keep HBE.out (Nat.le_refl _)).at (k := k) (by omega)
      obtain ⟨b', o', rfl, a0, a1, a2, a3, a4⟩ := (HA.out.keep HBE.out (Nat.le_refl _)).at hlt
      rw [← ntAt_at hlt] at a0
      have hpb : ∀ i, i < s.ns.length → -56 ≤ (ntAt s i).h * atL l i ∧ (ntAt s i).h * atL l i ≤ 56 := fun i hi => by
        have h1 := HOK.out.nt i hi
        have h2 := HB.out i hi
        have h3 : 0 ≤ (ntAt s i).h * atL l i := Int.mul_nonneg (by omega) h2.1
        have h4 : (ntAt s i).h * atL l i ≤ 14 * 4 := Int.mul_le_mul (by omega) h2.2 h2.1 (by omega)
        omega
      have h1 := sumTo_bd (f := fun i => (ntAt s i).h * atL l i) (n := k) (M := 56) fun i hi => hpb i (by omega)
      have h2 := hpb k hlt
      have HS := Lib.hid (show sumTo (fun i => (ntAt s i).h * atL l i) (k + 1) = sumTo (fun i => (ntAt s i).h * atL l i) k + (ntAt s k).h * atL l k from rfl)
      obtain ⟨X, hX⟩ : ∃ X, atL l k = X := ⟨_, rfl⟩
      obtain ⟨Z, hZ⟩ : ∃ Z, (ntAt s k).h = Z := ⟨_, rfl⟩
      obtain ⟨Y, hY⟩ : ∃ Y, sumTo (fun i => (ntAt s i).h * atL l i) k = Y := ⟨_, rfl⟩
      rw [hX, hZ] at h2 HS
      rw [hX] at d0
      rw [hZ] at a0
      rw [hY] at h1 HS ⊢
      obtain ⟨M, hM⟩ : ∃ M, Z * X = M := ⟨_, rfl⟩
      have wr0 : IntKind.i64.wrap (Z * X) = M := by rw [hM]; exact IntWalk.i64_in _ (by omega)
      rw [hM] at h2 HS
      have wr1 : IntKind.i64.wrap (Y + M) = Y + M := IntWalk.i64_in _ (by omega)
      have i1 : (0 : Int) ≤ (k : Int) := by omega
      have i2 : (k : Int) < (s.ns.length : Int) := by omega
      have i3 : (k : Int) < (l.length : Int) := by omega
      clear hX hY h1 h2 hM hZ hpb hll a1 a2 a3 a4
      go_wp2_with fail
      go_quiet (fail)
      go_wp2_with fail
      go_roundw
      case rel => exact ⟨k + 1, by omega, by go_num, by rw [HS.out], by simpa using HN.out, HBE.out.drewN _⟩
      case measure => simp [intOf]; omega
    · have hlt' : decide ((k : Int) < (s.ns.length : Int)) = false := by simpa using hlt
      obtain rfl : k = s.ns.length := by omega
      have HF := Lib.hid (show sumTo (fun i => (ntAt s i).h * atL l i) s.ns.length = lightL s l from rfl)
      obtain ⟨Y, hY⟩ : ∃ Y, sumTo (fun i => (ntAt s i).h * atL l i) s.ns.length = Y := ⟨_, rfl⟩
      rw [hY] at HF ⊢
      clear hY
      go_wp2_with fail
      go_ret
      exact ⟨by rw [← HF.out]; rfl, HBE.out⟩

theorem own_nilOk {w : World} {base e sz n n' c : Nat} {A : Option Addr} {xs : List Value} (h : w.ownsRow base e sz (.slice A n' c) n xs) : NilOk A c := by
  rcases h.2 with ⟨h1, _⟩ | ⟨g, cap, cur, h1, _⟩
  · simp only [Value.slice.injEq] at h1; exact fun _ => h1.2.2
  · simp only [Value.slice.injEq] at h1; exact fun h2 => by rw [h2] at h1; cases h1.1
section
variable (s : St) (A : Option Addr) (cp : Nat) (Ak : Option Addr) (ck : Nat) (k : List Int) (w : World) (hA : NtsAt w A s.ns) (hk : IntsAt w (.slice Ak k.length ck) k)
include hA hk
theorem trim_yes (h : StOk s) (hw : cansB s k = true) (hc : chp s (jobT s k) s.ns.length 0 s.sl < 524288) :
    Calls Try.prog 38 #[.agg #[.int .i64 s.cap, .int .i64 s.can, .int .i64 s.sl, .int .i64 s.sh, .slice A s.ns.length cp], .slice Ak k.length ck] w fun e w' => ∃ A1 c1, e = .returned (.tuple #[.slice A1 (bestL s (jobT s k) s.ns.length 0 s.sl).length c1, .int .i64 (-chp s (jobT s k) s.ns.length 0 s.sl), .int .i64 0]) ∧ IntsAt w' (.slice A1 (bestL s (jobT s k) s.ns.length 0 s.sl).length c1) (bestL s (jobT s k) s.ns.length 0 s.sl) ∧ NilOk A1 c1 ∧ Below w.heap.size w w' := by
  have hl := (cansB_true.1 hw).1
  have h6 := h.len
  exact (trim_any s A cp Ak ck k w (by omega) (by omega) hA hk).mono fun e w' ⟨h1, h2⟩ => by
    rcases h2 with ⟨h3, _⟩ | ⟨_, h3, _⟩ | ⟨_, _, h3, _⟩ | ⟨_, _, _, v, he, h6⟩
    · exact absurd (faultS_zero.2 h) h3
    · rw [hw] at h3; cases h3
    · omega
    · have i1 := IntsAt.of_own h6
      obtain ⟨A1, c1, rfl, j1⟩ := id i1
      exact ⟨A1, c1, he, i1, own_nilOk h6, h1⟩
theorem trim_stuck (h : StOk s) (hw : cansB s k = true) (hc : 524288 ≤ chp s (jobT s k) s.ns.length 0 s.sl) :
    Calls Try.prog 38 #[.agg #[.int .i64 s.cap, .int .i64 s.can, .int .i64 s.sl, .int .i64 s.sh, .slice A s.ns.length cp], .slice Ak k.length ck] w fun e w' => e = .returned (.tuple #[.slice none 0 0, .int .i64 0, .int .i64 10]) ∧ Below w.heap.size w w' := by
  have hl := (cansB_true.1 hw).1
  have h6 := h.len
  exact (trim_any s A cp Ak ck k w (by omega) (by omega) hA hk).mono fun e w' ⟨h1, h2⟩ => by
    rcases h2 with ⟨h3, _⟩ | ⟨_, h3, _⟩ | ⟨_, _, h3, he⟩ | ⟨_, _, h3, _⟩
    · exact absurd (faultS_zero.2 h) h3
    · rw [hw] at h3; cases h3
    · exact ⟨he, h1⟩
    · omega
end
/-- A list that was copied. -/
theorem list_some (A : Option Addr) (cap : Nat) (xs : List Int) (w : World) (h0 : A = none → cap = 0) (hv : IntsAt w (.slice A xs.length cap) xs) (hn : xs.length ≤ 1000000) :
    Calls Try.prog 34 #[.slice A xs.length cap] w fun e w' => ∃ A1 c1, e = .returned (.slice A1 xs.length c1) ∧ IntsAt w' (.slice A1 xs.length c1) xs ∧ NilOk A1 c1 ∧ Below w.heap.size w w' :=
  (list_any A cap xs w h0 hv hn).mono fun e w' ⟨v, he, h1, h2⟩ => by
    have i1 := IntsAt.of_own h1
    obtain ⟨A1, c1, rfl, j1⟩ := id i1
    exact ⟨A1, c1, he, i1, own_nilOk h1, h2⟩
end Go.Proofs.Ytefhdcecbmgljaa
namespace Go.Proofs.Ytefhdcecbmgljaa
open Go.RowKit Go.WalkArith

/-- The list of what burns, the last nights filled. -/
def nthTo (s : St) (n r : Nat) : List Int := (List.range s.ns.length).map fun i => if s.ns.length - r ≤ i then nthB s n i else 0
theorem nthTo_len (s : St) (n r : Nat) : (nthTo s n r).length = s.ns.length := by simp [nthTo]
theorem nthTo_full (s : St) (n : Nat) : nthTo s n s.ns.length = nthL s n := by
  unfold nthTo nthL
  exact List.map_congr_left fun i _ => by rw [if_pos (by omega)]
theorem nthTo_set {s : St} {n r i : Nat} (hi : i + r + 1 = s.ns.length) : (nthTo s n r).set i (nthB s n i) = nthTo s n (r + 1) := by
  refine List.ext_getElem (by simp [nthTo]) fun j h1 h2 => ?_
  simp only [nthTo, List.length_map, List.length_range] at h2
  rw [List.getElem_set]
  simp only [nthTo, List.getElem_map, List.getElem_range]
  by_cases e : i = j
  · subst e; rw [if_pos rfl, if_pos (by omega)]
  · rw [if_neg e]
    by_cases e2 : s.ns.length - r ≤ j
    · rw [if_pos e2, if_pos (by omega)]
    · rw [if_neg e2, if_neg (by omega)]
theorem made_zeros (n : Nat) : (madeCells #[Value.int .i64 0] n).toList = (List.replicate n (0 : Int)).map (Value.int .i64) := by
  rw [List.map_replicate]
  refine List.ext_getElem (by simp [madeCells]) fun i h1 h2 => ?_
  simp [madeCells, Nat.mod_one]
theorem nthTo_zero (s : St) (n : Nat) : nthTo s n 0 = List.replicate s.ns.length 0 := by
  refine List.ext_getElem (by simp [nthTo]) fun i h1 h2 => ?_
  simp only [nthTo, List.getElem_map, List.getElem_range, List.getElem_replicate]
  simp only [nthTo, List.length_map, List.length_range] at h1
  rw [if_neg (by omega)]
theorem set_both {w : World} {B t : Nat} {x y : Value} {fr : Nat × Nat} (h : w.heap[B]? = some (.cells #[x, y] t fr)) (x' y' : Value) :
    ((w.setCell ⟨B, 0, none⟩ x').setCell ⟨B, 1, none⟩ y').heap[B]? = some (.cells #[x', y'] t fr) := by
  obtain ⟨hlt, hg⟩ := Array.getElem?_eq_some_iff.1 h
  simp [World.setCell, hlt, Array.getElem_modify, hg]
theorem set_fst {w : World} {B t : Nat} {x y : Value} {fr : Nat × Nat} (h : w.heap[B]? = some (.cells #[x, y] t fr)) (x' : Value) :
    (w.setCell ⟨B, 0, none⟩ x').heap[B]? = some (.cells #[x', y] t fr) := by
  obtain ⟨hlt, hg⟩ := Array.getElem?_eq_some_iff.1 h
  simp [World.setCell, hlt, Array.getElem_modify, hg]

theorem Go_below_of_grown {w w' : World} (h : w.grownBy w' none) : Below w.heap.size w w' := ⟨h.os, h.tape, h.output, h.size, fun j hj => h.block j hj (by simp)⟩
theorem cell_set1 {w : World} {B Bi k i : Nat} {x : Value} (h : Bi ≠ B) : (w.setCell ⟨B, i, none⟩ x).cell? ⟨Bi, k, none⟩ = w.cell? ⟨Bi, k, none⟩ := cell_block (Below.heap_setCell _ _ _ _ h)
def NTRel (s : St) (n0 : Nat) (w : World) (Bs Br Bt g : Nat) (os : Obj) (n i : Value) (wr : World) : Prop :=
  ∃ r : Nat, r ≤ s.ns.length ∧ i = .int .i64 ((s.ns.length : Int) - 1 - (r : Int)) ∧ n = .int .i64 (remN s n0 r) ∧ wr.heap[Bs]? = some os ∧ wr.heap[Br]? = some (.cells #[.int .i64 0, .slice none 0 0] 31 (0, 0)) ∧ wr.heap[Bt]? = some (.cells #[.int .i64 0, .slice (some ⟨g, 0, none⟩) s.ns.length s.ns.length] 31 (0, 0)) ∧ wr.ownsRow g 3 1 (.slice (some ⟨g, 0, none⟩) s.ns.length s.ns.length) s.ns.length ((nthTo s n0 r).map (Value.int .i64)) ∧ Below w.heap.size w wr

set_option maxRecDepth 100000 in
set_option maxHeartbeats 4000000 in
theorem nth_any (s : St) (A : Option Addr) (cp : Nat) (n0 : Nat) (w : World) (hok : StOk s) (hn0 : n0 < manyN s) (hA : NtsAt w A s.ns) :
    Calls Try.prog 93 #[.agg #[.int .i64 s.cap, .int .i64 s.can, .int .i64 s.sl, .int .i64 s.sh, .slice A s.ns.length cp], .int .i64 n0] w fun e w' => ∃ Ab cb, e = .returned (.agg #[.int .i64 (nthT s n0), .slice Ab (nthL s n0).length cb]) ∧ IntsAt w' (.slice Ab (nthL s n0).length cb) (nthL s n0) ∧ Below w.heap.size w w' := by
  obtain ⟨i0, hi0, hz0, hz1, hz2⟩ := info_parts Try.info3
  have hB0 : Below w.heap.size w ((w.alloc (.cells #[.int .i64 s.cap, .int .i64 s.can, .int .i64 s.sl, .int .i64 s.sh, .slice A s.ns.length cp] 26)).alloc (.cells #[.int .i64 0, .slice none 0 0] 31)) := ((Below.refl _ _).alloc (Nat.le_refl _) _).alloc (by simp) _
  have hb0 : ((w.alloc (.cells #[.int .i64 s.cap, .int .i64 s.can, .int .i64 s.sl, .int .i64 s.sh, .slice A s.ns.length cp] 26)).alloc (.cells #[.int .i64 0, .slice none 0 0] 31)).heap[w.heap.size]? = some (.cells #[.int .i64 s.cap, .int .i64 s.can, .int .i64 s.sl, .int .i64 s.sh, .slice A s.ns.length cp] 26 (0, 0)) := (Below.heap_alloc _ _ _ (by simp)).trans (heap_new_at _ _ _ rfl)
  have hb1 := heap_alloc2 w (.cells #[.int .i64 s.cap, .int .i64 s.can, .int .i64 s.sl, .int .i64 s.sh, .slice A s.ns.length cp] 26) (.cells #[.int .i64 0, .slice none 0 0] 31)
  have HA := Lib.hid hA
  have HO := Lib.hid hok
  have HN0 := Lib.hid hn0
  have h6 := hok.len
  have hpos := hok.pos
  have hwl : IntKind.i64.wrap ((s.ns.length : Int) - 1) = (s.ns.length : Int) - 1 := IntWalk.i64_in _ (by omega)
  clear hA hok hn0
  obtain ⟨w1, hw1⟩ : ∃ w1, ((w.alloc (.cells #[.int .i64 s.cap, .int .i64 s.can, .int .i64 s.sl, .int .i64 s.sh, .slice A s.ns.length cp] 26)).alloc (.cells #[.int .i64 0, .slice none 0 0] 31)) = w1 := ⟨_, rfl⟩
  have hsz1 : w1.heap.size = w.heap.size + 1 + 1 := by rw [← hw1]; simp
  have HW1 := Lib.hid hw1
  rw [hw1] at hB0 hb0 hb1
  have HB1 := Lib.hid hB0
  have HN1 := Lib.hid hb0
  have HR1 := Lib.hid hb1
  clear hw1 hB0 hb0 hb1
  go_enter Try.func93, Try.ntmps93
  go_wp2_with (at_make; refine wpList_make_full _ rfl _ _ 27 rfl (w.heap.size + 1 + 1) 3 i0 (.int .i64 0) 1 Try.underlying27 hi0 hz0 hz1 .i64 .i64 _ _ s.ns.length rfl rfl rfl rfl ?b2 ?b3 ?b4 ?_)
  case b2 => rw [hz2]; omega
  case b3 => unfold maxLen; omega
  case b4 => simp
  rw [HW1.out]
  intro w2 hown hgr
  have hb12 : Below w1.heap.size w1 w2 := Go_below_of_grown hgr
  rw [made_zeros, ← nthTo_zero s n0] at hown
  obtain ⟨g, hgg⟩ : ∃ g, w.heap.size + 1 + 1 = g := ⟨_, rfl⟩
  have HB2 := Lib.hid (HB1.out.trans (hb12.mono HB1.out.size))
  have HN2 := Lib.hid ((hb12.block _ (Array.getElem?_eq_some_iff.1 HN1.out).1).trans HN1.out)
  have HR2 := Lib.hid ((hb12.block _ (Array.getElem?_eq_some_iff.1 HR1.out).1).trans HR1.out)
  have hw2 := hb12.size
  rw [hgg] at hown ⊢
  have hgl := (hown.lt g rfl).2
  have og1 : w.heap.size + 1 < g := by omega
  have HOW := Lib.hid hown
  clear hb12 hgr hown HB1 HN1 HR1 HW1 hgg hsz1
  have hb3 : Below w.heap.size w (w2.alloc (.cells #[.int .i64 0, .slice (some ⟨g, 0, none⟩) s.ns.length s.ns.length] 31)) := HB2.out.alloc (by omega) _
  have hn3 := Go.heap_alloc_new w2 (.cells #[.int .i64 0, .slice (some ⟨g, 0, none⟩) s.ns.length s.ns.length] 31)
  have ho3 := HOW.out.alloc (.cells #[.int .i64 0, .slice (some ⟨g, 0, none⟩) s.ns.length s.ns.length] 31)
  have hs3 := (Below.heap_alloc w2 (.cells #[.int .i64 0, .slice (some ⟨g, 0, none⟩) s.ns.length s.ns.length] 31) w.heap.size (by omega)).trans HN2.out
  have hr3 := (Below.heap_alloc w2 (.cells #[.int .i64 0, .slice (some ⟨g, 0, none⟩) s.ns.length s.ns.length] 31) (w.heap.size + 1) (by omega)).trans HR2.out
  have c4 : (w2.alloc (.cells #[.int .i64 0, .slice (some ⟨g, 0, none⟩) s.ns.length s.ns.length] 31)).cell? ⟨w.heap.size, 4, none⟩ = some (.slice A s.ns.length cp) := by simp only [World.cell?, hs3]; rfl
  have HB3 := Lib.hid hb3
  have HN3 := Lib.hid hs3
  have HR3 := Lib.hid hr3
  have HT3 := Lib.hid hn3
  have HO3 := Lib.hid ho3
  clear hb3 hn3 ho3 hs3 hr3
  go_wp2_with fail
  generalize w2.alloc (.cells #[.int .i64 0, .slice (some ⟨g, 0, none⟩) s.ns.length s.ns.length] 31) = w3 at HB3 HN3 HR3 HT3 HO3 c4 ⊢
  obtain ⟨Bt, hBt⟩ : ∃ Bt, w2.heap.size = Bt := ⟨_, rfl⟩
  obtain ⟨Br, hBr⟩ : ∃ Br, w.heap.size + 1 = Br := ⟨_, rfl⟩
  obtain ⟨Bs, hBs⟩ : ∃ Bs, w.heap.size = Bs := ⟨_, rfl⟩
  have o1 : Bs < Br := by omega
  have o2 : Br < g := by omega
  have o3 : g < Bt := by omega
  have o4 : w.heap.size ≤ Bs := by omega
  rw [hBt] at HT3 ⊢
  rw [hBr] at HR3 ⊢
  rw [hBs] at HN3 ⊢
  clear hBt hBr hBs HB2 HN2 HR2 HOW hw2 hgl c4 og1
  clear hz2 hz1 hz0 hi0 i0
  go_loopw [1, 6] (NTRel s n0 w Bs Br Bt g (.cells #[.int .i64 s.cap, .int .i64 s.can, .int .i64 s.sl, .int .i64 s.sh, .slice A s.ns.length cp] 26 (0, 0))) (fun _ i _ => (intOf i + 1).toNat)
  case atStart => exact ⟨0, by omega, by simp, rfl, HN3.out, HR3.out, HT3.out, HO3.out, HB3.out⟩
  case round =>
    clear HB3 HN3 HR3 HT3 HO3
    obtain ⟨r, hr, rfl, rfl, hs, hr0, ht, hown, hbe⟩ := hrel
    obtain ⟨t0, t1⟩ := cells2 ht
    obtain ⟨r0, r1⟩ := cells2 hr0
    obtain ⟨s0, s1, s2, s3, s4⟩ := cells5 hs
    have lBt := (Array.getElem?_eq_some_iff.1 ht).1
    have hgl := (hown.lt g rfl).2
    have HS := Lib.hid hs
    have HR := Lib.hid hr0
    have HT := Lib.hid ht
    have HOW := Lib.hid hown
    have HBE := Lib.hid hbe
    clear hs hr0 ht hown hbe
    by_cases hlt : r < s.ns.length
    · obtain ⟨i, hi⟩ : ∃ i : Nat, i + r + 1 = s.ns.length := ⟨s.ns.length - (r + 1), by omega⟩
      have hii : (s.ns.length : Int) - 1 - (r : Int) = (i : Int) := by omega
      rw [hii]
      have hge : decide ((i : Int) ≥ 0) = true := by simp
      have hge2 : decide ((0 : Int) ≤ (i : Int)) = true := by simp
      have hin : i < s.ns.length := by omega
      obtain ⟨b, o, rfl, a0, a1, a2, a3, a4⟩ := (HA.out.keep HBE.out (Nat.le_refl _)).at hin
      rw [← ntAt_at hin] at a0 a1 a2 a3 a4
      have hnt := HO.out.nt i hin
      have hbu := burnsN_bd HO.out hin
      have hrl := remN_lt HO.out HN0.out hr
      have hmb := manyTo_big HO.out (i := s.ns.length - r) (by omega)
      have hst := nthTo_set (s := s) (n := n0) hi
      have hnb : nthB s n0 i = (ntAt s i).lo + ((remN s n0 r % burnsN s i : Nat) : Int) := by unfold nthB; rw [show s.ns.length - (i + 1) = r by omega]
      have hrs : remN s n0 (r + 1) = remN s n0 r / burnsN s i := by simp only [remN]; rw [show s.ns.length - (r + 1) = i by omega]
      obtain ⟨⟨nh, na, nb, nlo, nhi⟩, hN⟩ : ∃ N, ntAt s i = N := ⟨_, rfl⟩
      rw [hN] at a0 a1 a2 a3 a4 hnt hbu hnb
      dsimp only at a0 a1 a2 a3 a4 hnt hbu hnb
      obtain ⟨W, hW⟩ : ∃ W, burnsN s i = W := ⟨_, rfl⟩
      obtain ⟨R, hR⟩ : ∃ R, remN s n0 r = R := ⟨_, rfl⟩
      obtain ⟨R', hR'⟩ : ∃ R', remN s n0 (r + 1) = R' := ⟨_, rfl⟩
      obtain ⟨B, hB⟩ : ∃ B, nthB s n0 i = B := ⟨_, rfl⟩
      rw [hW] at hbu hnb hrs
      rw [hR] at hnb hrs hrl ⊢
      rw [hR'] at hrs
      rw [hB] at hnb hst
      obtain ⟨D, hD⟩ : ∃ D, nhi - nlo = D := ⟨_, rfl⟩
      have hmod : R % W < W := Nat.mod_lt _ (by omega)
      have hdiv : R / W ≤ R := Nat.div_le_self _ _
      have w1' : IntKind.i64.wrap (nhi - nlo) = D := by rw [hD]; exact IntWalk.i64_in _ (by omega)
      have w2' : IntKind.i64.wrap (D + 1) = (W : Int) := by rw [show D + 1 = (W : Int) by omega]; exact IntWalk.i64_in _ (by omega)
      obtain ⟨Q, hQ⟩ : ∃ Q, R % W = Q := ⟨_, rfl⟩
      have w3b : (R : Int) % (W : Int) = (Q : Int) := by rw [← hQ]; simp
      have w3' : ((R : Int)).tmod (W : Int) = (Q : Int) := by rw [Int.tmod_eq_emod_of_nonneg (by omega)]; exact w3b
      rw [hQ] at hnb hmod
      have w4' : IntKind.i64.wrap (nlo + (Q : Int)) = B := by rw [hnb]; exact IntWalk.i64_in _ (by omega)
      have w5' : ((R : Int)).tdiv (W : Int) = (R' : Int) := by rw [Int.tdiv_eq_ediv_of_nonneg (by omega), hrs]; simp
      have w6' : IntKind.i64.wrap (R' : Int) = (R' : Int) := IntWalk.i64_in _ (by omega)
      have w7' : ((W : Int) == 0) = false := by simp; omega
      have w8' : ¬ W = 0 := by omega
      have i1 : (0 : Int) ≤ (i : Int) := by omega
      have i2 : (i : Int) < (s.ns.length : Int) := by omega
      have oc := own_cell1 HOW.out
      have zi := oc.2 i
      have ci : ∃ v, wr.cell? ⟨g, i, none⟩ = some v := by
        have hlen : ((nthTo s n0 r).map (Value.int .i64)).length = s.ns.length := by simp [nthTo]
        exact ⟨_, oc.1 i _ (List.getElem?_eq_getElem (by rw [hlen]; exact hin))⟩
      obtain ⟨v0, ci⟩ := ci
      have HST := Lib.hid hst
      have HRR := Lib.hid hR'
      clear hnt hbu hrl hmb hst hnb hrs hN hW hR hR' hB hD hmod hdiv oc hQ
      have hwa : Below wr.heap.size wr (wr.alloc (.cells #[.int .i64 nlo, .int .i64 nhi] 23)) := (Below.refl _ _).alloc (Nat.le_refl _) _
      have HNB := Lib.hid (Go.heap_alloc_new wr (.cells #[.int .i64 nlo, .int .i64 nhi] 23))
      have ht2 := cell_later hwa t1
      have hc2 := cell_later hwa ci
      have hz2 : (wr.alloc (.cells #[.int .i64 nlo, .int .i64 nhi] 23)).frozen? ⟨g, i, none⟩ = false := by rw [← zi]; exact Below.frozen hwa hgl
      have HWA := Lib.hid hwa
      clear hwa
      go_wp2_with fail
      clear a0 a1 a2 a3 a4 t0 t1 r0 r1 s0 s1 s2 s3 s4 ci zi
      generalize wr.alloc (.cells #[.int .i64 nlo, .int .i64 nhi] 23) = w4 at HNB ht2 hc2 hz2 HWA ⊢
      obtain ⟨Bn, hBn⟩ : ∃ Bn, wr.heap.size = Bn := ⟨_, rfl⟩
      rw [hBn] at HNB ⊢
      obtain ⟨c0, c1⟩ := cells2 HNB.out
      have nbg : Bn ≠ g := by omega
      have ntg : Bt ≠ g := by omega
      refine wp_region_held_drew (S := fun X => X.cell? ⟨Bt, 1, none⟩ = some (.slice (some ⟨g, 0, none⟩) s.ns.length s.ns.length) ∧ X.cell? ⟨Bn, 0, none⟩ = some (.int .i64 nlo) ∧ X.cell? ⟨Bn, 1, none⟩ = some (.int .i64 nhi)) (by kernel_rfl) (⟨ht2, c0, c1⟩) (fun hS0 => ?_)
      refine tkH 0 ⟨some 27, .fieldAddr 31 (.tmp 5) 1, 0, "ref.go:129", #[], none⟩ (v := ?_) hS0 ?_ ?_
      rotate_left
      · intro X ⟨x0, x1, x2⟩; go_simp; try with_reducible rfl
      simp only [Act.put, List.setIfInBounds_toArray, List.set_cons_zero, List.set_cons_succ, Array.toArray_toList]
      refine tkH 1 ⟨some 28, .load 27 (.tmp 27), 27, "ref.go:129", #[⟨0, .data⟩], none⟩ (v := ?_) hS0 ?_ ?_
      rotate_left
      · intro X ⟨x0, x1, x2⟩; go_simp; try with_reducible rfl
      simp only [Act.put, List.setIfInBounds_toArray, List.set_cons_zero, List.set_cons_succ, Array.toArray_toList]
      refine tkH 2 ⟨some 29, .move (.tmp 6), 3, "ref.go:129", #[], none⟩ (v := ?_) hS0 ?_ ?_
      rotate_left
      · intro X ⟨x0, x1, x2⟩; go_simp; try with_reducible rfl
      simp only [Act.put, List.setIfInBounds_toArray, List.set_cons_zero, List.set_cons_succ, Array.toArray_toList]
      refine tkH 3 ⟨some 30, .fieldAddr 23 (.tmp 7) 0, 0, "ref.go:129", #[], none⟩ (v := ?_) hS0 ?_ ?_
      rotate_left
      · intro X ⟨x0, x1, x2⟩; go_simp; try with_reducible rfl
      simp only [Act.put, List.setIfInBounds_toArray, List.set_cons_zero, List.set_cons_succ, Array.toArray_toList]
      refine tkH 4 ⟨some 31, .load 3 (.tmp 30), 3, "ref.go:129", #[⟨3, .data⟩], none⟩ (v := ?_) hS0 ?_ ?_
      rotate_left
      · intro X ⟨x0, x1, x2⟩; go_simp; try with_reducible rfl
      simp only [Act.put, List.setIfInBounds_toArray, List.set_cons_zero, List.set_cons_succ, Array.toArray_toList]
      refine tkH 5 ⟨some 32, .move (.tmp 1), 3, "ref.go:129", #[], none⟩ (v := ?_) hS0 ?_ ?_
      rotate_left
      · intro X ⟨x0, x1, x2⟩; go_simp; try with_reducible rfl
      simp only [Act.put, List.setIfInBounds_toArray, List.set_cons_zero, List.set_cons_succ, Array.toArray_toList]
      refine tkH 6 ⟨some 33, .fieldAddr 23 (.tmp 7) 1, 0, "ref.go:129", #[], none⟩ (v := ?_) hS0 ?_ ?_
      rotate_left
      · intro X ⟨x0, x1, x2⟩; go_simp; try with_reducible rfl
      simp only [Act.put, List.setIfInBounds_toArray, List.set_cons_zero, List.set_cons_succ, Array.toArray_toList]
      refine tkH 7 ⟨some 34, .load 3 (.tmp 33), 3, "ref.go:129", #[⟨6, .data⟩], none⟩ (v := ?_) hS0 ?_ ?_
      rotate_left
      · intro X ⟨x0, x1, x2⟩; go_simp; try with_reducible rfl
      simp only [Act.put, List.setIfInBounds_toArray, List.set_cons_zero, List.set_cons_succ, Array.toArray_toList]
      refine tkH 8 ⟨some 35, .fieldAddr 23 (.tmp 7) 0, 0, "ref.go:129", #[], none⟩ (v := ?_) hS0 ?_ ?_
      rotate_left
      · intro X ⟨x0, x1, x2⟩; go_simp; try with_reducible rfl
      simp only [Act.put, List.setIfInBounds_toArray, List.set_cons_zero, List.set_cons_succ, Array.toArray_toList]
      refine tkH 9 ⟨some 36, .load 3 (.tmp 35), 3, "ref.go:129", #[⟨8, .data⟩], none⟩ (v := ?_) hS0 ?_ ?_
      rotate_left
      · intro X ⟨x0, x1, x2⟩; go_simp; try with_reducible rfl
      simp only [Act.put, List.setIfInBounds_toArray, List.set_cons_zero, List.set_cons_succ, Array.toArray_toList]
      refine tkH 10 ⟨some 37, .binOp .sub 3 (.tmp 34) (.tmp 36) 3, 3, "ref.go:129", #[⟨7, .data⟩, ⟨9, .data⟩], none⟩ (v := ?_) hS0 ?_ ?_
      rotate_left
      · intro X ⟨x0, x1, x2⟩; go_simp; try with_reducible rfl
      simp only [Act.put, List.setIfInBounds_toArray, List.set_cons_zero, List.set_cons_succ, Array.toArray_toList]
      refine tkH 11 ⟨some 38, .binOp .add 3 (.tmp 37) (.const (.int .i64 1)) 3, 3, "ref.go:129", #[⟨10, .data⟩], none⟩ (v := ?_) hS0 ?_ ?_
      rotate_left
      · intro X ⟨x0, x1, x2⟩; go_simp; try with_reducible rfl
      simp only [Act.put, List.setIfInBounds_toArray, List.set_cons_zero, List.set_cons_succ, Array.toArray_toList]
      refine tkH 12 ⟨some 39, .binOp .rem 3 (.tmp 32) (.tmp 38) 3, 3, "ref.go:129", #[⟨5, .data⟩, ⟨11, .data⟩], none⟩ (v := ?_) hS0 ?_ ?_
      rotate_left
      · intro X ⟨x0, x1, x2⟩; go_simp; try with_reducible rfl
      simp only [Act.put, List.setIfInBounds_toArray, List.set_cons_zero, List.set_cons_succ, Array.toArray_toList]
      refine tkH 13 ⟨some 40, .binOp .add 3 (.tmp 31) (.tmp 39) 3, 3, "ref.go:129", #[⟨4, .data⟩, ⟨12, .data⟩], none⟩ (v := ?_) hS0 ?_ ?_
      rotate_left
      · intro X ⟨x0, x1, x2⟩; go_simp; try with_reducible rfl
      simp only [Act.put, List.setIfInBounds_toArray, List.set_cons_zero, List.set_cons_succ, Array.toArray_toList]
      refine tkH 14 ⟨some 41, .move (.tmp 1), 3, "ref.go:129", #[{ on := 23, ground := Ground.gcOnly Departure.lateStores }], none⟩ (v := ?_) hS0 ?_ ?_
      rotate_left
      · intro X ⟨x0, x1, x2⟩; go_simp; try with_reducible rfl
      simp only [Act.put, List.setIfInBounds_toArray, List.set_cons_zero, List.set_cons_succ, Array.toArray_toList]
      refine tkH 15 ⟨some 42, .fieldAddr 23 (.tmp 7) 1, 0, "ref.go:129", #[{ on := 23, ground := Ground.gcOnly Departure.lateStores }], none⟩ (v := ?_) hS0 ?_ ?_
      rotate_left
      · intro X ⟨x0, x1, x2⟩; go_simp; try with_reducible rfl
      simp only [Act.put, List.setIfInBounds_toArray, List.set_cons_zero, List.set_cons_succ, Array.toArray_toList]
      refine tkH 16 ⟨some 43, .load 3 (.tmp 42), 3, "ref.go:129", #[⟨15, .data⟩, { on := 23, ground := Ground.gcOnly Departure.lateStores }], none⟩ (v := ?_) hS0 ?_ ?_
      rotate_left
      · intro X ⟨x0, x1, x2⟩; go_simp; try with_reducible rfl
      simp only [Act.put, List.setIfInBounds_toArray, List.set_cons_zero, List.set_cons_succ, Array.toArray_toList]
      refine tkH 17 ⟨some 44, .fieldAddr 23 (.tmp 7) 0, 0, "ref.go:129", #[{ on := 23, ground := Ground.gcOnly Departure.lateStores }], none⟩ (v := ?_) hS0 ?_ ?_
      rotate_left
      · intro X ⟨x0, x1, x2⟩; go_simp; try with_reducible rfl
      simp only [Act.put, List.setIfInBounds_toArray, List.set_cons_zero, List.set_cons_succ, Array.toArray_toList]
      refine tkH 18 ⟨some 45, .load 3 (.tmp 44), 3, "ref.go:129", #[⟨17, .data⟩, { on := 23, ground := Ground.gcOnly Departure.lateStores }], none⟩ (v := ?_) hS0 ?_ ?_
      rotate_left
      · intro X ⟨x0, x1, x2⟩; go_simp; try with_reducible rfl
      simp only [Act.put, List.setIfInBounds_toArray, List.set_cons_zero, List.set_cons_succ, Array.toArray_toList]
      refine tkH 19 ⟨some 46, .binOp .sub 3 (.tmp 43) (.tmp 45) 3, 3, "ref.go:129", #[⟨16, .data⟩, ⟨18, .data⟩, { on := 23, ground := Ground.gcOnly Departure.lateStores }], none⟩ (v := ?_) hS0 ?_ ?_
      rotate_left
      · intro X ⟨x0, x1, x2⟩; go_simp; try with_reducible rfl
      simp only [Act.put, List.setIfInBounds_toArray, List.set_cons_zero, List.set_cons_succ, Array.toArray_toList]
      refine tkH 20 ⟨some 47, .binOp .add 3 (.tmp 46) (.const (.int .i64 1)) 3, 3, "ref.go:129", #[⟨19, .data⟩, { on := 23, ground := Ground.gcOnly Departure.lateStores }], none⟩ (v := ?_) hS0 ?_ ?_
      rotate_left
      · intro X ⟨x0, x1, x2⟩; go_simp; try with_reducible rfl
      simp only [Act.put, List.setIfInBounds_toArray, List.set_cons_zero, List.set_cons_succ, Array.toArray_toList]
      refine tkH 21 ⟨some 48, .binOp .quo 3 (.tmp 41) (.tmp 47) 3, 3, "ref.go:129", #[⟨14, .data⟩, ⟨20, .data⟩, { on := 23, ground := Ground.gcOnly Departure.lateStores }], none⟩ (v := ?_) hS0 ?_ ?_
      rotate_left
      · intro X ⟨x0, x1, x2⟩; go_simp; try with_reducible rfl
      simp only [Act.put, List.setIfInBounds_toArray, List.set_cons_zero, List.set_cons_succ, Array.toArray_toList]
      refine tkH 22 ⟨some 49, .indexAddr 27 (.tmp 28) (.tmp 29), 0, "ref.go:129", #[⟨1, .data⟩, ⟨2, .data⟩, ⟨0, .phase⟩, ⟨1, .phase⟩, ⟨2, .phase⟩, ⟨3, .phase⟩, ⟨4, .phase⟩, ⟨5, .phase⟩, ⟨6, .phase⟩, ⟨7, .phase⟩, ⟨8, .phase⟩, ⟨9, .phase⟩, ⟨10, .phase⟩, ⟨11, .phase⟩, ⟨12, .phase⟩, ⟨13, .phase⟩, ⟨14, .textOnly .lateStores⟩, ⟨15, .textOnly .lateStores⟩, ⟨16, .textOnly .lateStores⟩, ⟨17, .textOnly .lateStores⟩, ⟨18, .textOnly .lateStores⟩, ⟨19, .textOnly .lateStores⟩, ⟨20, .textOnly .lateStores⟩, ⟨21, .textOnly .lateStores⟩], none⟩ (v := ?_) hS0 ?_ ?_
      rotate_left
      · intro X ⟨x0, x1, x2⟩; go_simp; try with_reducible rfl
      simp only [Act.put, List.setIfInBounds_toArray, List.set_cons_zero, List.set_cons_succ, Array.toArray_toList]
      refine wpAnyH_ready (rs := [23]) (by kernel_rfl) (by simp) (AllReadyH.cons (o := ⟨none, .store 3 (.tmp 49) (.tmp 40), 0, "ref.go:129", #[⟨22, .data⟩, ⟨13, .data⟩, ⟨0, .phase⟩, ⟨1, .phase⟩, ⟨2, .phase⟩, ⟨3, .phase⟩, ⟨4, .phase⟩, ⟨5, .phase⟩, ⟨6, .phase⟩, ⟨7, .phase⟩, ⟨8, .phase⟩, ⟨9, .phase⟩, ⟨10, .phase⟩, ⟨11, .phase⟩, ⟨12, .phase⟩, ⟨13, .phase⟩, ⟨14, .textOnly .lateStores⟩, ⟨15, .textOnly .lateStores⟩, ⟨16, .textOnly .lateStores⟩, ⟨17, .textOnly .lateStores⟩, ⟨18, .textOnly .lateStores⟩, ⟨19, .textOnly .lateStores⟩, ⟨20, .textOnly .lateStores⟩, ⟨21, .textOnly .lateStores⟩], none⟩) rfl (fun K hK => ?_) AllReadyH.nil)
      go_simp
      refine hK.out _ _ (⟨(cell_set1 ntg).trans ht2, (cell_set1 nbg).trans c0, (cell_set1 nbg).trans c1⟩) (fun hS1 => ?_)
      clear hS0 hK K
      refine tkH 24 ⟨some 1, .assign (.tmp 48), 3, "ref.go:129", #[⟨21, .data⟩, ⟨23, .chain⟩, ⟨0, .phase⟩, ⟨1, .phase⟩, ⟨2, .phase⟩, ⟨3, .phase⟩, ⟨4, .phase⟩, ⟨5, .phase⟩, ⟨6, .phase⟩, ⟨7, .phase⟩, ⟨8, .phase⟩, ⟨9, .phase⟩, ⟨10, .phase⟩, ⟨11, .phase⟩, ⟨12, .phase⟩, ⟨13, .phase⟩, ⟨14, .phase⟩, ⟨15, .phase⟩, ⟨16, .phase⟩, ⟨17, .phase⟩, ⟨18, .phase⟩, ⟨19, .phase⟩, ⟨20, .phase⟩, ⟨21, .phase⟩, ⟨22, .phase⟩, ⟨23, .phase⟩], none⟩ (v := ?_) hS1 ?_ ?_
      rotate_left
      · intro X ⟨x0, x1, x2⟩; go_simp; try with_reducible rfl
      simp only [Act.put, List.setIfInBounds_toArray, List.set_cons_zero, List.set_cons_succ, Array.toArray_toList]
      refine wpAnyH_done (by kernel_rfl) ?_ _
      clear hS1
      have hown4 := own_setS (HOW.out.kept (Go_grown_of_below HWA.out) (own_none _)) i (.int .i64 B)
      rw [← List.map_set, HST.out] at hown4
      have hs4 := (Below.heap_setCell w4 ⟨g, i, none⟩ (.int .i64 B) Bs (by show Bs ≠ g; omega)).trans ((HWA.out.block Bs (Array.getElem?_eq_some_iff.1 HS.out).1).trans HS.out)
      have hr4 := (Below.heap_setCell w4 ⟨g, i, none⟩ (.int .i64 B) Br (by show Br ≠ g; omega)).trans ((HWA.out.block Br (Array.getElem?_eq_some_iff.1 HR.out).1).trans HR.out)
      have ht4 := (Below.heap_setCell w4 ⟨g, i, none⟩ (.int .i64 B) Bt (by show Bt ≠ g; omega)).trans ((HWA.out.block Bt (Array.getElem?_eq_some_iff.1 HT.out).1).trans HT.out)
      have hb4 : Below w.heap.size w (w4.setCell ⟨g, i, none⟩ (.int .i64 B)) := (HBE.out.trans (HWA.out.mono HBE.out.size)).setCell (by show w.heap.size ≤ g; omega) _
      generalize w4.setCell ⟨g, i, none⟩ (.int .i64 B) = w5 at hown4 hs4 hr4 ht4 hb4 ⊢
      have HF := Lib.hid (And.intro hs4 (And.intro hr4 (And.intro ht4 (And.intro hown4 hb4))))
      have wri : IntKind.i64.wrap ((i : Int) - 1) = (i : Int) - 1 := IntWalk.i64_in _ (by omega)
      clear hown4 hs4 hr4 ht4 hb4
      go_wp2_with fail
      go_roundw
      case rel => exact ⟨r + 1, by omega, by rw [show (s.ns.length : Int) - 1 - ((r + 1 : Nat) : Int) = (i : Int) - 1 by omega], by rw [HRR.out], HF.out.1, HF.out.2.1, HF.out.2.2.1, HF.out.2.2.2.1, HF.out.2.2.2.2.drew⟩
      case measure => simp [intOf] <;> omega
    · obtain rfl : r = s.ns.length := by omega
      have hm1 : (s.ns.length : Int) - 1 - (s.ns.length : Int) = -1 := by omega
      rw [hm1]
      have hd1 : decide ((-1 : Int) ≥ 0) = false := by decide
      have hT0 : nthT s n0 = s.sl + (remN s n0 s.ns.length : Int) := rfl
      have hTR := nth_tr HO.out HN0.out
      have hc1 := HO.out.c1
      have hs2 := HO.out.s2
      have hs0 := HO.out.s0
      have ht0 := hTR.t0
      have ht1 := hTR.t1
      obtain ⟨R, hR⟩ : ∃ R, remN s n0 s.ns.length = R := ⟨_, rfl⟩
      rw [hR] at hT0 ⊢
      obtain ⟨T, hT⟩ : ∃ T, nthT s n0 = T := ⟨_, rfl⟩
      have hnl := nthL_len s n0
      have hfull := nthTo_full s n0
      rw [hT] at hT0 ht0 ht1
      have HTT := Lib.hid hT
      have wt : IntKind.i64.wrap (s.sl + (R : Int)) = T := by rw [← hT0]; exact IntWalk.i64_in _ (by omega)
      have zt : wr.frozen? ⟨Bt, 0, none⟩ = false := by simp [World.frozen?, HT.out]
      have HNL := Lib.hid hnl
      have HFU := Lib.hid hfull
      clear hT0 hR hT hTR hm1 hnl hfull
      go_upto_region 8 with fail
      have hq := set_fst HT.out (.int .i64 T)
      have hrb := (Below.heap_setCell wr ⟨Bt, 0, none⟩ (.int .i64 T) Br (by show Br ≠ Bt; omega)).trans HR.out
      have hO8 := own_of_blocks (w' := wr.setCell ⟨Bt, 0, none⟩ (.int .i64 T)) HOW.out (fun g' hg' => Below.heap_setCell _ _ _ _ (by have e : g' = g := (by simpa [Value.ownBlock] using hg'.symm); show g' ≠ Bt; omega))
      have hb8 : Below w.heap.size w (wr.setCell ⟨Bt, 0, none⟩ (.int .i64 T)) := HBE.out.setCell (by show w.heap.size ≤ Bt; omega) _
      generalize wr.setCell ⟨Bt, 0, none⟩ (.int .i64 T) = v1 at hq hrb hO8 hb8 ⊢
      clear t0 t1 r0 r1 s0 s1 s2 s3 s4 zt wt
      obtain ⟨q0, q1⟩ := cells2 hq
      obtain ⟨r0, r1⟩ := cells2 hrb
      have z0 : v1.frozen? ⟨Br, 0, none⟩ = false := by simp [World.frozen?, hrb]
      have z1 : v1.frozen? ⟨Br, 1, none⟩ = false := by simp [World.frozen?, hrb]
      have HQ := Lib.hid hq
      have HRB := Lib.hid hrb
      have HO8 := Lib.hid hO8
      have HB8 := Lib.hid hb8
      clear hq hrb hO8 hb8
      go_wp2_with fail
      have hq9 := set_both HRB.out (.int .i64 T) (.slice (some ⟨g, 0, none⟩) s.ns.length s.ns.length)
      have hO9 := own_of_blocks (w' := (v1.setCell ⟨Br, 0, none⟩ (.int .i64 T)).setCell ⟨Br, 1, none⟩ (.slice (some ⟨g, 0, none⟩) s.ns.length s.ns.length)) HO8.out (fun g' hg' => by
        have e : g' = g := (by simpa [Value.ownBlock] using hg'.symm)
        exact (Below.heap_setCell _ _ _ _ (by show g' ≠ Br; omega)).trans (Below.heap_setCell _ _ _ _ (by show g' ≠ Br; omega)))
      have hb9 : Below w.heap.size w ((v1.setCell ⟨Br, 0, none⟩ (.int .i64 T)).setCell ⟨Br, 1, none⟩ (.slice (some ⟨g, 0, none⟩) s.ns.length s.ns.length)) := (HB8.out.setCell (by show w.heap.size ≤ Br; omega) _).setCell (by show w.heap.size ≤ Br; omega) _
      generalize (v1.setCell ⟨Br, 0, none⟩ (.int .i64 T)).setCell ⟨Br, 1, none⟩ (.slice (some ⟨g, 0, none⟩) s.ns.length s.ns.length) = V at hq9 hO9 hb9 ⊢
      have u0 : V.cell? ⟨Br, 0, none⟩ = some (.int .i64 T) := by simp [World.cell?, hq9]
      have u1 : V.cell? ⟨Br, 1, none⟩ = some (.slice (some ⟨g, 0, none⟩) s.ns.length s.ns.length) := by simp [World.cell?, hq9]
      rw [HFU.out] at hO9
      have hI := IntsAt.of_own hO9
      have hl := HNL.out
      have hI2 : IntsAt V (.slice (some ⟨g, 0, none⟩) (nthL s n0).length s.ns.length) (nthL s n0) := by rw [hl]; exact hI
      exact bodyPost_ret (v := .agg #[.int .i64 T, .slice (some ⟨g, 0, none⟩) s.ns.length s.ns.length]) (by simp [results, Try.results93, go_sem, u0, u1]) rfl ⟨some ⟨g, 0, none⟩, s.ns.length, by rw [hl, HTT.out], hI2, hb9⟩
end Go.Proofs.Ytefhdcecbmgljaa
namespace Go.Proofs.Ytefhdcecbmgljaa

def extL (l : List Int) (lo : Int) (m : Nat) : List (List Int) := (List.range m).map fun (j : Nat) => l ++ [lo + (j : Int)]
def nextL (ls : List (List Int)) (lo : Int) (m k : Nat) : List (List Int) := (ls.take k).flatMap fun l => extL l lo m
def listsL (lo : Nat → Int) (m : Nat → Nat) : Nat → List (List Int)
  | 0 => [[]]
  | i + 1 => (listsL lo m i).flatMap fun l => extL l (lo i) (m i)
theorem extL_len (l : List Int) (lo : Int) (m : Nat) : (extL l lo m).length = m := by simp [extL]
theorem extL_zero (l : List Int) (lo : Int) : extL l lo 0 = [] := rfl
theorem extL_succ (l : List Int) (lo : Int) (m : Nat) : extL l lo (m + 1) = extL l lo m ++ [l ++ [lo + (m : Int)]] := by simp [extL, List.range_succ]
theorem nextL_zero (ls : List (List Int)) (lo : Int) (m : Nat) : nextL ls lo m 0 = [] := by simp [nextL]
theorem nextL_succ {ls : List (List Int)} {lo : Int} {m k : Nat} (hk : k < ls.length) : nextL ls lo m (k + 1) = nextL ls lo m k ++ extL (ls.getD k []) lo m := by
  unfold nextL
  rw [List.take_succ, List.flatMap_append, List.getD_eq_getElem?_getD, List.getElem?_eq_getElem hk]
  simp only [Option.toList_some, Option.getD_some, List.flatMap_cons, List.flatMap_nil, List.append_nil]
theorem nextL_full (lo : Nat → Int) (m : Nat → Nat) (i : Nat) : nextL (listsL lo m i) (lo i) (m i) (listsL lo m i).length = listsL lo m (i + 1) := by simp [nextL, listsL]
theorem flat_len (ls : List (List Int)) (lo : Int) (m : Nat) : (ls.flatMap fun l => extL l lo m).length = ls.length * m := by
  induction ls with
  | nil => simp
  | cons l ls ih => simp only [List.flatMap_cons, List.length_append, ih, extL_len, List.length_cons, Nat.succ_mul]; omega
theorem nextL_len {ls : List (List Int)} {lo : Int} {m k : Nat} (hk : k ≤ ls.length) : (nextL ls lo m k).length = k * m := by
  unfold nextL; rw [flat_len, List.length_take, Nat.min_eq_left hk]
theorem listsL_len {lo : Nat → Int} {m : Nat → Nat} {n : Nat} (h : ∀ i, i < n → m i ≤ 5) : (listsL lo m n).length ≤ 5 ^ n := by
  induction n with
  | zero => simp [listsL]
  | succ n ih =>
    simp only [listsL]
    rw [flat_len, Nat.pow_succ]
    exact Nat.mul_le_mul (ih fun i hi => h i (by omega)) (h n (by omega))
theorem listsL_le {lo : Nat → Int} {m : Nat → Nat} {n : Nat} (h : ∀ i, i < n → m i ≤ 5) (hn : n ≤ 6) : (listsL lo m n).length ≤ 15625 := by
  refine Nat.le_trans (listsL_len h) ?_
  exact Nat.le_trans (Nat.pow_le_pow_right (by omega) hn) (by decide)
theorem atL_app_lt {l : List Int} {x : Int} {j : Nat} (h : j < l.length) : atL (l ++ [x]) j = atL l j := by
  simp [atL, List.getElem?_append_left h]
theorem atL_app_eq {l : List Int} {x : Int} : atL (l ++ [x]) l.length = x := by
  simp [atL]
theorem mem_lists {lo : Nat → Int} {m : Nat → Nat} {n : Nat} {l : List Int} : l ∈ listsL lo m n ↔ l.length = n ∧ ∀ j, j < n → lo j ≤ atL l j ∧ atL l j < lo j + (m j : Int) := by
  induction n generalizing l with
  | zero =>
    simp only [listsL, List.mem_singleton]
    constructor
    · rintro rfl; exact ⟨rfl, fun j hj => by omega⟩
    · rintro ⟨h, -⟩; exact List.length_eq_zero_iff.1 h
  | succ n ih =>
    simp only [listsL, List.mem_flatMap]
    constructor
    · rintro ⟨l', h', hx⟩
      obtain ⟨h1, h2⟩ := ih.1 h'
      obtain ⟨j, hj, rfl⟩ := List.mem_map.1 hx
      have hj := List.mem_range.1 hj
      refine ⟨by simp [h1], fun i hi => ?_⟩
      by_cases e : i = n
      · subst e
        rw [← h1, atL_app_eq, h1]; omega
      · rw [atL_app_lt (by omega)]; exact h2 i (by omega)
    · rintro ⟨h1, h2⟩
      have hne : l ≠ [] := by intro e; rw [e] at h1; simp at h1
      obtain ⟨l', x, rfl⟩ : ∃ l' x, l = l' ++ [x] := ⟨l.dropLast, l.getLast hne, (List.dropLast_concat_getLast hne).symm⟩
      have h3 : l'.length = n := by simpa using h1
      have h4 := h2 n (by omega)
      rw [← h3, atL_app_eq, h3] at h4
      refine ⟨l', ih.2 ⟨h3, fun j hj => ?_⟩, ?_⟩
      · have := h2 j (by omega)
        rwa [atL_app_lt (by omega)] at this
      · refine List.mem_map.2 ⟨(x - lo n).toNat, List.mem_range.2 (by omega), ?_⟩
        rw [show lo n + (((x - lo n).toNat : Nat) : Int) = x by omega]
theorem lexB_app (l a b : List Int) : lexB (l ++ a) (l ++ b) = lexB a b := by
  induction l with
  | nil => rfl
  | cons x l ih => simp [lexB, ih]
theorem lexB_ext : ∀ {a b x y : List Int}, a.length = b.length → lexB a b = true → lexB (a ++ x) (b ++ y) = true
  | [], [], _, _, _, h => by simp [lexB] at h
  | [], _ :: _, _, _, h, _ => by simp at h
  | _ :: _, [], _, _, h, _ => by simp at h
  | p :: a, q :: b, x, y, h, hl => by
    simp only [lexB, List.cons_append] at hl ⊢
    split
    · rename_i e; rw [if_pos e] at hl; exact lexB_ext (by simpa using h) hl
    · rename_i e; rw [if_neg e] at hl; exact hl
theorem ext_pair (l : List Int) (lo : Int) (m : Nat) : List.Pairwise (fun a b => lexB a b = true) (extL l lo m) := by
  unfold extL
  rw [List.pairwise_map]
  refine List.Pairwise.imp ?_ (List.pairwise_lt_range (n := m))
  intro a b h
  rw [lexB_app]
  simp only [lexB]
  rw [if_neg (by omega)]
  simpa using h
theorem lists_pair (lo : Nat → Int) (m : Nat → Nat) (n : Nat) : List.Pairwise (fun a b => lexB a b = true) (listsL lo m n) := by
  induction n with
  | zero => simp [listsL]
  | succ n ih =>
    simp only [listsL]
    rw [List.pairwise_flatMap]
    refine ⟨fun a _ => ext_pair a _ _, ih.imp_of_mem ?_⟩
    intro a b ha hb hab x hx y hy
    obtain ⟨i, _, rfl⟩ := List.mem_map.1 hx
    obtain ⟨j, _, rfl⟩ := List.mem_map.1 hy
    exact lexB_ext ((mem_lists.1 ha).1.trans (mem_lists.1 hb).1.symm) hab

/-- The first best list of the first ones that pass. -/
def bestR (p : List Int → Bool) (v : List Int → Int) (ls : List (List Int)) : Nat → List Int
  | 0 => []
  | i + 1 => if ((bestR p v ls i).isEmpty || decide (v (ls.getD i []) < v (bestR p v ls i))) && p (ls.getD i []) then ls.getD i [] else bestR p v ls i
theorem bestR_spec {p : List Int → Bool} {v : List Int → Int} {ls : List (List Int)} (hne : ∀ l, l ∈ ls → l ≠ []) : ∀ i, i ≤ ls.length →
    (bestR p v ls i = [] ∧ ∀ j, j < i → p (ls.getD j []) = false) ∨ (∃ k, k < i ∧ bestR p v ls i = ls.getD k [] ∧ bestR p v ls i ≠ [] ∧ p (ls.getD k []) = true ∧ (∀ j, j < i → p (ls.getD j []) = true → v (ls.getD k []) ≤ v (ls.getD j [])) ∧ ∀ j, j < k → p (ls.getD j []) = true → v (ls.getD k []) < v (ls.getD j [])) := by
  intro i
  induction i with
  | zero => intro _; exact .inl ⟨rfl, fun j hj => by omega⟩
  | succ i ih =>
    intro hi
    have hm : ls.getD i [] ∈ ls := by rw [List.getD_eq_getElem?_getD, List.getElem?_eq_getElem (by omega)]; exact List.getElem_mem _
    have hn := hne _ hm
    generalize hx : ls.getD i [] = x at hn
    have hlast : ∀ j, j < i + 1 → j = i ∨ j < i := fun j hj => by omega
    rcases ih (by omega) with ⟨h1, h2⟩ | ⟨k, hk, h1, h0, h2, h3, h4⟩
    · simp only [bestR, h1, hx, List.isEmpty_nil, Bool.true_or, Bool.true_and]
      cases hp : p x with
      | true =>
        right
        refine ⟨i, by omega, by rw [if_pos rfl, hx], by rw [if_pos rfl]; exact hn, by rw [hx, hp], fun j hj hpj => ?_, fun j hj hpj => ?_⟩
        · rcases hlast j hj with rfl | hj
          · exact Int.le_refl _
          · rw [h2 j hj] at hpj; cases hpj
        · rw [h2 j hj] at hpj; cases hpj
      | false =>
        left
        refine ⟨by simp, fun j hj => ?_⟩
        rcases hlast j hj with rfl | hj
        · rw [hx, hp]
        · exact h2 j hj
    · have he : (bestR p v ls i).isEmpty = false := by
        cases hb : bestR p v ls i with
        | nil => exact absurd hb h0
        | cons a b => rfl
      simp only [bestR, he, hx, Bool.false_or]
      cases hc : (decide (v x < v (bestR p v ls i)) && p x) with
      | true =>
        rw [Bool.and_eq_true, decide_eq_true_eq] at hc
        right
        refine ⟨i, by omega, by rw [if_pos rfl, hx], by rw [if_pos rfl]; exact hn, by rw [hx]; exact hc.2, fun j hj hpj => ?_, fun j hj hpj => ?_⟩
        · rcases hlast j hj with rfl | hj
          · exact Int.le_refl _
          · have := h3 j hj hpj
            have := hc.1
            rw [h1] at this; rw [hx]; omega
        · have := h3 j hj hpj
          have := hc.1
          rw [h1] at this; rw [hx]; omega
      | false =>
        right
        refine ⟨k, by omega, by rw [if_neg (by simp)]; exact h1, by rw [if_neg (by simp)]; exact h0, h2, fun j hj hpj => ?_, h4⟩
        rcases hlast j hj with rfl | hj
        · rw [hx] at hpj ⊢
          rw [hpj, Bool.and_true, decide_eq_false_iff_not, h1] at hc
          omega
        · exact h3 j hj hpj
theorem getD_mem {ls : List (List Int)} {i : Nat} (h : i < ls.length) : ls.getD i [] ∈ ls := by
  rw [List.getD_eq_getElem?_getD, List.getElem?_eq_getElem h]; exact List.getElem_mem _
theorem mem_getD {ls : List (List Int)} {l : List Int} (h : l ∈ ls) : ∃ i, i < ls.length ∧ ls.getD i [] = l := by
  obtain ⟨i, hi, rfl⟩ := List.mem_iff_getElem.1 h
  exact ⟨i, hi, by rw [List.getD_eq_getElem?_getD, List.getElem?_eq_getElem hi]; rfl⟩
theorem pair_getD {ls : List (List Int)} (h : List.Pairwise (fun a b => lexB a b = true) ls) {i j : Nat} (hij : i < j) (hj : j < ls.length) : lexB (ls.getD i []) (ls.getD j []) = true := by
  rw [List.getD_eq_getElem?_getD, List.getElem?_eq_getElem (show i < ls.length by omega), List.getD_eq_getElem?_getD, List.getElem?_eq_getElem hj]
  exact List.pairwise_iff_getElem.1 h i j (by omega) hj hij
theorem bestR_is {p : List Int → Bool} {v : List Int → Int} {ls : List (List Int)} (hne : ∀ l, l ∈ ls → l ≠ []) (hp : List.Pairwise (fun a b => lexB a b = true) ls) {b : List Int} (hb : b ∈ ls) (hpb : p b = true)
    (hmin : ∀ l, l ∈ ls → p l = true → v b ≤ v l ∧ (v l = v b → lexB l b = false)) : bestR p v ls ls.length = b := by
  obtain ⟨i, hi, rfl⟩ := mem_getD hb
  rcases bestR_spec (p := p) (v := v) hne ls.length (Nat.le_refl _) with ⟨_, h⟩ | ⟨k, hk, h1, _, h2, h3, h4⟩
  · rw [h i hi] at hpb; cases hpb
  · have a1 := h3 i hi hpb
    have a2 := hmin _ (getD_mem hk) h2
    have e : v (ls.getD k []) = v (ls.getD i []) := by omega
    rw [h1]
    by_cases e1 : k < i
    · have := pair_getD hp e1 hi
      rw [a2.2 e] at this; cases this
    · by_cases e2 : i < k
      · have := h4 i e2 hpb; omega
      · rw [show k = i by omega]
theorem bestR_no {p : List Int → Bool} {v : List Int → Int} {ls : List (List Int)} (hne : ∀ l, l ∈ ls → l ≠ []) (h : ∀ l, l ∈ ls → p l = false) : bestR p v ls ls.length = [] := by
  rcases bestR_spec (p := p) (v := v) hne ls.length (Nat.le_refl _) with ⟨h1, _⟩ | ⟨k, hk, _, _, h2, _⟩
  · exact h1
  · rw [h _ (getD_mem hk)] at h2; cases h2
/-- What has been found is nothing, or one of the lists. -/
theorem bestR_mem {p : List Int → Bool} {v : List Int → Int} {ls : List (List Int)} (hne : ∀ l, l ∈ ls → l ≠ []) {i : Nat} (hi : i ≤ ls.length) : bestR p v ls i = [] ∨ bestR p v ls i ∈ ls := by
  rcases bestR_spec (p := p) (v := v) hne i hi with ⟨h1, _⟩ | ⟨k, hk, h1, _⟩
  · exact .inl h1
  · exact .inr (by rw [h1]; exact getD_mem (by omega))

/-! ## All cans, all wicks -/
def canLists (s : St) : List (List Int) := listsL (fun _ => 0) (fun _ => 3) s.ns.length
def wickLists (s : St) : List (List Int) := listsL (fun i => (ntAt s i).a) (fun i => ((ntAt s i).b + 1 - (ntAt s i).a).toNat) s.ns.length
theorem mem_cans {s : St} {l : List Int} : l ∈ canLists s ↔ cansB s l = true := by
  unfold canLists
  rw [mem_lists, cansB_true]
  constructor
  · rintro ⟨h1, h2⟩; exact ⟨h1, fun i hi => by have := h2 i hi; omega⟩
  · rintro ⟨h1, h2⟩; exact ⟨h1, fun i hi => by have := h2 i hi; omega⟩
theorem mem_wicks {s : St} {l : List Int} : l ∈ wickLists s ↔ wicksB s l = true := by
  unfold wickLists
  rw [mem_lists, wicksB_true]
  constructor
  · rintro ⟨h1, h2⟩; exact ⟨h1, fun i hi => by have := h2 i hi; omega⟩
  · rintro ⟨h1, h2⟩; exact ⟨h1, fun i hi => by have := h2 i hi; omega⟩
theorem cans_ne {s : St} (h : StOk s) : ∀ l, l ∈ canLists s → l ≠ [] := by
  intro l hl e
  have h1 := (cansB_true.1 (mem_cans.1 hl)).1
  have := h.pos
  rw [e] at h1; simp at h1; omega
theorem wicks_ne {s : St} (h : StOk s) : ∀ l, l ∈ wickLists s → l ≠ [] := by
  intro l hl e
  have h1 := (wicksB_true.1 (mem_wicks.1 hl)).1
  have := h.pos
  rw [e] at h1; simp at h1; omega
/-- What the reference's Deliver and Trim find. -/
def rDel (s : St) (wk : List Int) : List Int := bestR (fun l => provePlanB s l wk) sumL (canLists s) (canLists s).length
def rTrim (s : St) (cs : List Int) : List Int := bestR (fun l => provePlanB s cs l) (fun l => -lightL s l) (wickLists s) (wickLists s).length
theorem rDel_yes {s : St} {wk : List Int} (h : StOk s) (hw : wicksB s wk = true) (hc : chp s (jobD wk) s.ns.length 0 s.sl < 524288) : rDel s wk = bestL s (jobD wk) s.ns.length 0 s.sl := by
  obtain ⟨h1, h2, h3, h4⟩ := deliver_best h hw hc
  refine bestR_is (cans_ne h) (lists_pair _ _ _) ?_ h2 ?_
  · exact mem_cans.2 (plan_parts (prove_iff.1 h2).1).2.2.1
  · intro l hl hp
    obtain ⟨g1, g2⟩ := h4 l hp
    refine ⟨by rw [h3]; exact g1, fun e => ?_⟩
    rw [← befB_lex (by rw [h1]; exact (cansB_true.1 (mem_cans.1 hl)).1)]
    exact g2 (by rw [e, h3])
theorem rDel_no {s : St} {wk : List Int} (h : StOk s) (hw : wicksB s wk = true) (hc : 524288 ≤ chp s (jobD wk) s.ns.length 0 s.sl) : rDel s wk = [] :=
  bestR_no (cans_ne h) fun l _ => deliver_none h hw hc l
theorem rTrim_yes {s : St} {cs : List Int} (h : StOk s) (hw : cansB s cs = true) (hc : chp s (jobT s cs) s.ns.length 0 s.sl < 524288) : rTrim s cs = bestL s (jobT s cs) s.ns.length 0 s.sl := by
  obtain ⟨h1, h2, h3, h4⟩ := trim_best h hw hc
  refine bestR_is (wicks_ne h) (lists_pair _ _ _) ?_ h2 ?_
  · exact mem_wicks.2 (plan_parts (prove_iff.1 h2).1).2.2.2
  · intro l hl hp
    obtain ⟨g1, g2⟩ := h4 l hp
    refine ⟨by rw [h3]; omega, fun e => ?_⟩
    rw [← befB_lex (by rw [h1]; exact (wicksB_true.1 (mem_wicks.1 hl)).1)]
    exact g2 (by omega)
theorem rTrim_no {s : St} {cs : List Int} (h : StOk s) (hw : cansB s cs = true) (hc : 524288 ≤ chp s (jobT s cs) s.ns.length 0 s.sl) : rTrim s cs = [] :=
  bestR_no (wicks_ne h) fun l _ => trim_none h hw hc l
end Go.Proofs.Ytefhdcecbmgljaa
namespace Go.Proofs.Ytefhdcecbmgljaa
open Go.RowKit Go.WalkArith

theorem Try.info27 : (Try.prog.info? 27).map (fun i => (i.zero, i.size, i.bytes)) = some (some (.slice none 0 0), 1, 24) := by kernel_rfl
/-- Lists of numbers behind a slice. -/
def ListsAt (W : World) (v : Value) (ls : List (List Int)) : Prop :=
  ∃ b o cap, v = .slice (some ⟨b, o, none⟩) ls.length cap ∧ ∀ i, i < ls.length → ∃ u, W.cell? ⟨b, o + i, none⟩ = some u ∧ IntsAt W u (ls.getD i []) ∧ (ls.getD i [] = [] → u = .slice none 0 0)
theorem ListsAt.keep {W W' : World} {v : Value} {ls : List (List Int)} {B : Nat} (h : ListsAt W v ls) (hb : Below B W W') (hB : W.heap.size ≤ B) : ListsAt W' v ls := by
  obtain ⟨b, o, cap, h1, h2⟩ := h
  refine ⟨b, o, cap, h1, fun i hi => ?_⟩
  obtain ⟨u, h3, h4, h5⟩ := h2 i hi
  exact ⟨u, (hb.cell (p := ⟨b, o + i, none⟩) (Nat.lt_of_lt_of_le (World.block_lt_of_cell? W _ h3) hB)).trans h3, h4.keep hb hB, h5⟩
/-- A row of lists that the call made; no list lies in the row's own block. -/
def RowL (W : World) (base : Nat) (v : Value) (ls : List (List Int)) : Prop :=
  ∃ vs : List Value, vs.length = ls.length ∧ W.ownsRow base 27 1 v ls.length vs ∧ ∀ i, i < ls.length → ∃ g n cap, vs[i]? = some (.slice (some ⟨g, 0, none⟩) n cap) ∧ g < W.heap.size ∧ v.ownBlock ≠ some g ∧ IntsAt W (.slice (some ⟨g, 0, none⟩) n cap) (ls.getD i []) ∧ ls.getD i [] ≠ []
theorem RowL.nil (W : World) (base : Nat) : RowL W base (.slice none 0 0) [] := ⟨[], rfl, World.ownsRow_nil _ _ _ _, fun i hi => by simp at hi⟩
theorem IntsAt.grown {W W' : World} {g n cap : Nat} {row : Option Nat} {xs : List Int} (h : IntsAt W (.slice (some ⟨g, 0, none⟩) n cap) xs) (hg : W.grownBy W' row) (hlt : g < W.heap.size) (hne : row ≠ some g) : IntsAt W' (.slice (some ⟨g, 0, none⟩) n cap) xs := by
  obtain ⟨A, c, h1, h2⟩ := h
  cases h1
  refine ⟨_, _, rfl, ?_⟩
  rcases h2 with h2 | ⟨b, o, h3, h4⟩
  · exact .inl h2
  · cases h3
    refine .inr ⟨_, _, rfl, fun i hi => ?_⟩
    exact (World.cell?_of_block (hg.block g hlt (fun e => hne e.symm))).trans (h4 i hi)
theorem RowL.keep {W W' : World} {base : Nat} {v : Value} {ls : List (List Int)} (h : RowL W base v ls) (hb : Below W.heap.size W W') : RowL W' base v ls := by
  obtain ⟨vs, h1, h2, h3⟩ := h
  refine ⟨vs, h1, h2.kept (Go_grown_of_below hb) (by cases e : v.ownBlock <;> simp), fun i hi => ?_⟩
  obtain ⟨g, n, cap, a1, a2, a3, a4, a5⟩ := h3 i hi
  exact ⟨g, n, cap, a1, Nat.lt_of_lt_of_le a2 hb.size, a3, a4.keep hb (Nat.le_refl _), a5⟩
theorem RowL.sliceN {W : World} {base : Nat} {v : Value} {ls : List (List Int)} (h : RowL W base v ls) : ∃ A cap, v = .slice A ls.length cap := by
  obtain ⟨vs, _, h2, _⟩ := h
  rcases h2.2 with ⟨rfl, h0⟩ | ⟨g, cap, cur, rfl, _⟩
  · rw [h0]; exact ⟨_, _, rfl⟩
  · exact ⟨_, _, rfl⟩
theorem RowL.lists {W : World} {base : Nat} {v : Value} {ls : List (List Int)} (h : RowL W base v ls) (hp : 0 < ls.length) : ListsAt W v ls := by
  obtain ⟨vs, h1, h2, h3⟩ := h
  have hc := h2
  rcases h2.2 with ⟨rfl, h0⟩ | ⟨g, cap, cur, rfl, _⟩
  · omega
  · refine ⟨g, 0, cap, rfl, fun i hi => ?_⟩
    obtain ⟨g', n', cap', a1, _, _, a4, a5⟩ := h3 i hi
    refine ⟨_, ?_, a4, fun e => absurd e a5⟩
    rw [Nat.zero_add, hc.cellAt i (by omega), a1]
theorem getD_app_lt {ls : List (List Int)} {l : List Int} {i : Nat} (h : i < ls.length) : (ls ++ [l]).getD i [] = ls.getD i [] := by
  rw [List.getD_eq_getElem?_getD, List.getD_eq_getElem?_getD, List.getElem?_append_left h]
theorem getD_app_eq {ls : List (List Int)} {l : List Int} : (ls ++ [l]).getD ls.length [] = l := by
  rw [List.getD_eq_getElem?_getD]; simp

section
variable {w : World} {ops : Array Oper} {rest : List Oper} {o : Oper} {a : Act} {Q : Exit → Act → World → Prop}
/-- A copy of a list is appended to an empty row. -/
theorem wpList_app_copy (hgd : o.guard = none) (s x : Operand) (ho : o.op = .call { callee := .builtin .append, args := #[s, x], argTypes := #[27, 27] }) (base : Nat) (v : Value) (hs : a.eval s = v) (hown : w.ownsRow base 3 1 v 0 [])
    (u : Value) (xs : List Int) (hx : a.eval x = u) (hu : IntsAt w u xs) (h0 : xs = [] → u = .slice none 0 0) (hl : xs.length ≤ 1000) (hbase : base ≤ w.heap.size)
    (h : ∀ v' w', w'.ownsRow base 3 1 v' xs.length (xs.map (Value.int .i64)) → w.grownBy w' v.ownBlock → wpList Try.prog ops Q rest (a.put o.dst v') w') : wpList Try.prog ops Q (o :: rest) a w := by
  obtain ⟨i0, hi0, hz0, hz1, hz2⟩ := info_parts Try.info3
  by_cases e : xs = []
  · subst e
    obtain rfl := h0 rfl
    exact wpList_append_own_none hgd s x 27 ho base 3 i0 1 Try.underlying27 hi0 v 0 [] hs hown hx (h v w hown ⟨rfl, rfl, rfl, Nat.le_refl _, fun _ _ _ => rfl⟩)
  · obtain ⟨A, cap, rfl, hc⟩ := id hu
    obtain ⟨b, o', rfl, hd⟩ := hc.resolve_left e
    have hpos := List.length_pos_iff.2 e
    refine wpList_append_own w hgd s x 27 ho base 3 i0 (.int .i64 0) 1 8 Try.underlying27 hi0 hz0 hz1 hz2 rfl (by decide) v 0 [] hs hown ⟨b, o', none⟩ xs.length cap (xs.map (Value.int .i64)) hx (by simp) (ints_cells hu) (by simp [Value.oneCell']) (by unfold maxLen; omega) (by omega) hbase ?_
    intro v' w' h1 h2 _
    refine h v' w' ?_ h2
    simpa using h1
/-- A list is appended to a row of lists. -/
theorem wpList_app_row (hgd : o.guard = none) (s x : Operand) (ho : o.op = .call { callee := .builtin .append, args := #[s, x], argTypes := #[134, 134] }) (base : Nat) (v : Value) (ls : List (List Int)) (hs : a.eval s = v) (hown : RowL w base v ls)
    (B g n c : Nat) (l : List Int) (hx : a.eval x = .slice (some ⟨B, 0, none⟩) 1 1) (hB : w.heap[B]? = some (.cells #[.slice (some ⟨g, 0, none⟩) n c] 27 (0, 0))) (hg : g < w.heap.size) (hne : v.ownBlock ≠ some g) (hl : IntsAt w (.slice (some ⟨g, 0, none⟩) n c) l) (hl0 : l ≠ []) (hn : ls.length ≤ 1000000) (hbase : base ≤ w.heap.size)
    (h : ∀ v' w', RowL w' base v' (ls ++ [l]) → Below base w w' → wpList Try.prog ops Q rest (a.put o.dst v') w') : wpList Try.prog ops Q (o :: rest) a w := by
  obtain ⟨i0, hi0, hz0, hz1, hz2⟩ := info_parts Try.info27
  obtain ⟨vs, h1, h2, h3⟩ := hown
  refine wpList_append_lies w hgd s x 134 ho base 27 i0 (.slice none 0 0) 1 24 Try.underlying134 hi0 hz0 hz1 hz2 rfl (by decide) v ls.length vs hs h2 ⟨B, 0, none⟩ 1 1 [.slice (some ⟨g, 0, none⟩) n c] hx rfl (World.news_of_block (cs := #[.slice (some ⟨g, 0, none⟩) n c]) (t := 27) (fr := (0, 0)) hB) (by simp [Value.oneCell']) (by omega) (by unfold maxLen; omega) (by omega) hbase w.heap.size rfl ?_
  intro g' cap' w' a1 a2 a3 a4
  have hown : ∀ k, k < w.heap.size → v.ownBlock ≠ some k → g' ≠ k := fun k hk hv e => by
    subst e
    rcases a3 with a3 | a3
    · exact hv a3
    · omega
  refine h _ w' ⟨vs ++ [.slice (some ⟨g, 0, none⟩) n c], by simp [h1], by simpa using a1, fun i hi => ?_⟩ (below_of_grown a2 h2 (Nat.le_refl _) hbase)
  by_cases e : i = ls.length
  · subst e
    rw [getD_app_eq]
    exact ⟨g, n, c, by rw [← h1]; simp, Nat.lt_of_lt_of_le hg a2.size, by simpa [Value.ownBlock] using hown g hg hne, hl.grown a2 hg hne, hl0⟩
  · have hi' : i < ls.length := by simp at hi; omega
    rw [getD_app_lt hi']
    obtain ⟨k, n', c', b1, b2, b3, b4, b5⟩ := h3 i hi'
    exact ⟨k, n', c', by rw [List.getElem?_append_left (by omega)]; exact b1, Nat.lt_of_lt_of_le b2 a2.size, by simpa [Value.ownBlock] using hown k b2 b3, b4.grown a2 b2 b3, b5⟩
end
theorem RowL.lt {W : World} {base : Nat} {v : Value} {ls : List (List Int)} (h : RowL W base v ls) : ∀ k, v.ownBlock = some k → base ≤ k ∧ k < W.heap.size := by
  obtain ⟨vs, _, h2, _⟩ := h
  exact h2.lt
theorem ListsAt.slice {W : World} {v : Value} {ls : List (List Int)} (h : ListsAt W v ls) : ∃ A cap, v = .slice A ls.length cap := by obtain ⟨b, o, cap, h, _⟩ := h; exact ⟨_, cap, h⟩
theorem ListsAt.at {W : World} {A : Option Addr} {n cap : Nat} {ls : List (List Int)} (h : ListsAt W (.slice A n cap) ls) {k : Nat} (hk : k < ls.length) : ∃ b o u, A = some ⟨b, o, none⟩ ∧ W.cell? ⟨b, o + k, none⟩ = some u ∧ IntsAt W u (ls.getD k []) ∧ (ls.getD k [] = [] → u = .slice none 0 0) := by
  obtain ⟨b, o, cap', he, hc⟩ := h
  cases he
  obtain ⟨u, h1, h2, h3⟩ := hc k hk
  exact ⟨b, o, u, rfl, h1, h2, h3⟩
def LsOut (lo : Nat → Int) (m : Nat → Nat) (nn : Nat) (w : World) (out i : Value) (wr : World) : Prop := ∃ k : Nat, k ≤ nn ∧ i = .int .i64 k ∧ ListsAt wr out (listsL lo m k) ∧ Below w.heap.size w wr
def LsMid (ls : List (List Int)) (lo : Int) (m : Nat) (w1 : World) (next k : Value) (wr : World) : Prop := ∃ c : Nat, c ≤ ls.length ∧ k = .int .i64 c ∧ RowL wr w1.heap.size next (nextL ls lo m c) ∧ Below w1.heap.size w1 wr
def LsIn (ls : List (List Int)) (lo : Int) (m : Nat) (c : Nat) (w1 : World) (next n : Value) (wr : World) : Prop := ∃ j : Nat, j ≤ m ∧ n = .int .i64 (lo + j) ∧ RowL wr w1.heap.size next (nextL ls lo m c ++ extL (ls.getD c []) lo j) ∧ Below w1.heap.size w1 wr

set_option maxRecDepth 100000 in
set_option maxHeartbeats 2000000 in
theorem lists_gen (v1 v2 : Value) (l1 l2 : List Int) (m : Nat → Nat) (w : World) (h1 : IntsAt w v1 l1) (h2 : IntsAt w v2 l2) (hl : l2.length = l1.length) (h6 : l1.length ≤ 6) (hb : ∀ i, i < l1.length → -1000 ≤ atL l1 i ∧ atL l1 i ≤ 1000 ∧ 1 ≤ m i ∧ m i ≤ 5 ∧ atL l2 i = atL l1 i + m i - 1) :
    Calls Try.prog 83 #[v1, v2] w fun e w' => ∃ v, e = .returned v ∧ ListsAt w' v (listsL (atL l1) m l1.length) ∧ Below w.heap.size w w' := by
  obtain ⟨A1, c1, rfl⟩ := h1.slice
  obtain ⟨A2, c2, rfl⟩ := h2.slice
  have H1 := Lib.hid h1
  have H2 := Lib.hid h2
  have HB := Lib.hid hb
  have HL := Lib.hid hl
  have HA := Lib.hid (show ListsAt (w.alloc (.cells #[.slice none 0 0] 27)) (.slice (some ⟨w.heap.size, 0, none⟩) 1 1) (listsL (atL l1) m 0) from ⟨w.heap.size, 0, 1, rfl, fun i hi => by
    have h0 : i = 0 := by simp [listsL] at hi; exact hi
    subst h0
    exact ⟨.slice none 0 0, by have h := Go.heap_alloc_new w (.cells #[.slice none 0 0] 27); simp only [World.cell?, Nat.add_zero]; rw [h]; rfl, by simp [listsL]; exact IntsAt.nil _, fun _ => rfl⟩⟩)
  have HB0 := Lib.hid (show Below w.heap.size w (w.alloc (.cells #[.slice none 0 0] 27)) from (Below.refl _ _).alloc (Nat.le_refl _) _)
  clear h1 h2 hb hl
  go_enter Try.func83, Try.ntmps83
  go_wp2_with fail
  generalize w.alloc (.cells #[.slice none 0 0] 27) = w0 at HA HB0 ⊢
  go_loopw [5, 6] (LsOut (atL l1) m l1.length w) (fun _ i _ => l1.length - (intOf i).toNat)
  case atStart => exact ⟨0, by omega, rfl, HA.out, HB0.out⟩
  case round =>
    clear HA HB0
    obtain ⟨k, hk, rfl, hls, hbe⟩ := hrel
    by_cases hlt : k < l1.length
    · have hlt' : decide ((k : Int) < (l1.length : Int)) = true := by simpa using hlt
      obtain ⟨p1, p2, p3, p4, p5⟩ := HB.out k hlt
      obtain ⟨b1, o1, rfl, d1⟩ := (H1.out.keep hbe (Nat.le_refl _)).at hlt
      obtain ⟨b2, o2, rfl, d2⟩ := (H2.out.keep hbe (Nat.le_refl _)).at (k := k) (by have := HL.out; omega)
      have hfull := nextL_full (atL l1) m k
      have hll : (listsL (atL l1) m k).length ≤ 15625 := listsL_le (fun i hi => (HB.out i (by omega)).2.2.2.1) (by omega)
      have hmem : ∀ c, c < (listsL (atL l1) m k).length → ((listsL (atL l1) m k).getD c []).length = k := fun c hc => (mem_lists.1 (getD_mem hc)).1
      have hpos : 0 < (listsL (atL l1) m k).length := by
        obtain ⟨_, _, _, e, _⟩ := hls
        have : ∀ q, q ≤ k → 0 < (listsL (atL l1) m q).length := by
          intro q
          induction q with
          | zero => intro _; simp [listsL]
          | succ q ih => intro hq; simp only [listsL]; rw [flat_len]; exact Nat.mul_pos (ih (by omega)) (by have := HB.out q (by omega); omega)
        exact this k (Nat.le_refl _)
      have hposn : 0 < (listsL (atL l1) m (k + 1)).length := by simp only [listsL]; rw [flat_len]; exact Nat.mul_pos hpos (by omega)
      generalize listsL (atL l1) m k = ls at hls hfull hll hmem hpos
      have HFULL := Lib.hid hfull
      have HMEM := Lib.hid hmem
      have HPOSN := Lib.hid hposn
      obtain ⟨Ao, co, rfl⟩ := hls.slice
      have HLS := Lib.hid hls
      have HBE := Lib.hid hbe
      have HPOS := Lib.hid hpos
      generalize hLo : atL l1 k = lo at p1 p2 p5 d1 HFULL ⊢
      generalize hM : m k = mm at p3 p4 p5 HFULL ⊢
      rw [p5] at d2
      have D1 := Lib.hid d1
      have D2 := Lib.hid d2
      clear hls hbe hfull hmem hposn hpos hLo hM p5 d1 d2
      have i1 : (0 : Int) ≤ (k : Int) := by omega
      have i2 : (k : Int) < (l1.length : Int) := by omega
      have i3 : (k : Int) < (l2.length : Int) := by have := HL.out; omega
      obtain ⟨w1, rfl⟩ : ∃ X, X = wr := ⟨_, rfl⟩
      go_wp2_with fail
      go_loopw [7, 8] (LsMid ls lo mm w1) (fun _ i _ => ls.length - (intOf i).toNat)
      case atStart => exact ⟨0, by omega, rfl, by rw [nextL_zero]; exact RowL.nil _ _, Below.refl _ _⟩
      case round =>
        obtain ⟨c, hc, rfl, hrow, hbe⟩ := hrel
        by_cases hlc : c < ls.length
        · have hlc' : decide ((c : Int) < (ls.length : Int)) = true := by simpa using hlc
          obtain ⟨An, cn, rfl⟩ := hrow.sliceN
          have d1 := cell_later hbe D1.out
          have HROW := Lib.hid hrow
          have HBE2 := Lib.hid hbe
          clear hrow hbe
          go_wp2_with fail
          clear d1
          go_loopw [7, 9] (LsIn ls lo mm c w1) (fun _ n _ => (lo + mm - intOf n).toNat)
          case atStart => exact ⟨0, by omega, by simp, by rw [extL_zero, List.append_nil]; exact HROW.out, HBE2.out⟩
          case round =>
            clear HROW HBE2
            obtain ⟨j, hj, rfl, hrow, hbe⟩ := hrel
            have d2 := cell_later hbe D2.out
            by_cases hlj : j < mm
            · have hlj' : decide (lo + (j : Int) ≤ lo + (mm : Int) - 1) = true := by simp; omega
              obtain ⟨b, o, u, rfl, hcu, hiu, hnu⟩ := (HLS.out.keep hbe (Nat.le_refl _)).at hlc
              obtain ⟨xs, hxs⟩ : ∃ xs, ls.getD c [] = xs := ⟨_, rfl⟩
              have hxl : xs.length ≤ 1000 := by rw [← hxs, HMEM.out c hlc]; omega
              rw [hxs] at hiu hnu hrow
              have hext : nextL ls lo mm c ++ extL xs lo (j + 1) = (nextL ls lo mm c ++ extL xs lo j) ++ [xs ++ [lo + (j : Int)]] := by rw [extL_succ, List.append_assoc]
              have hnl : (nextL ls lo mm c ++ extL xs lo j).length ≤ 1000000 := by
                rw [List.length_append, nextL_len hc, extL_len]
                have : c * mm ≤ 15625 * 5 := Nat.mul_le_mul (by omega) p4
                omega
              generalize nextL ls lo mm c ++ extL xs lo j = nx at hrow hext hnl
              obtain ⟨An, cn, rfl⟩ := hrow.sliceN
              obtain ⟨N, hN⟩ : ∃ N, lo + (j : Int) = N := ⟨_, rfl⟩
              rw [hN] at hext hlj' ⊢
              have wr1 : IntKind.i64.wrap (N + 1) = N + 1 := IntWalk.i64_in _ (by omega)
              have e1 : (0 : Int) ≤ (c : Int) := by omega
              have e2 : (c : Int) < (ls.length : Int) := by omega
              have hcu1 := cell_later ((Below.refl _ wr).alloc (Nat.le_refl _) (.cells #[] 3)) hcu
              have HIU := Lib.hid (hiu.keep ((Below.refl _ wr).alloc (Nat.le_refl _) (.cells #[] 3)) (Nat.le_refl _))
              have HNU := Lib.hid hnu
              have HXL := Lib.hid hxl
              have HXS := Lib.hid hxs
              have HROW := Lib.hid hrow
              have HEXT := Lib.hid hext
              have HNL := Lib.hid hnl
              have HBE2 := Lib.hid hbe
              have HN := Lib.hid (show N + 1 = lo + ((j + 1 : Nat) : Int) by omega)
              have HMS := Lib.hid (show (lo + (mm : Int) - (N + 1)).toNat < (lo + (mm : Int) - N).toNat by omega)
              clear hiu hnu hxl hxs hrow hext hnl hbe hN
              go_wp2_with (at_builtin; refine wpList_app_copy rfl _ _ rfl wr.heap.size _ rfl (World.ownsRow_made (base := wr.heap.size) (e := 3) (size := 1) wr #[] 0 (Nat.le_refl _) (by decide) rfl) u xs rfl HIU.out HNU.out HXL.out (by simp) ?_)
              intro v5 w5 hown5 hgrow5
              have hb5 : Below wr.heap.size wr w5 := ((Below.refl _ wr).alloc (Nat.le_refl _) (.cells #[] 3)).trans (below_of_grown hgrow5 (World.ownsRow_made (base := wr.heap.size) (e := 3) (size := 1) wr #[] 0 (Nat.le_refl _) (by decide) rfl) (Nat.le_refl _) (by simp))
              have HB5 := Lib.hid hb5
              have HO5 := Lib.hid hown5
              clear hown5 hgrow5 hb5 hcu hcu1 d2
              go_wp2_with (at_builtin; refine wpList_app_int rfl _ _ rfl wr.heap.size _ xs N w5.heap.size rfl (HO5.out.alloc _) rfl (Go.heap_alloc_new w5 _) (Nat.le_trans HXL.out (by decide)) (Nat.le_trans HB5.out.size (by simp)) _ rfl ?_)
              intro g6 c6 w6 hown6 hgrow6 _ _
              have hb6 : Below wr.heap.size wr w6 := (HB5.out.trans ((Below.refl _ w5).alloc (HB5.out.size) (.cells #[.int .i64 N] 3))).trans (below_of_grown hgrow6 (HO5.out.alloc _) (Nat.le_refl _) (Nat.le_trans HB5.out.size (by simp)))
              have hown6' : w6.ownsRow wr.heap.size 3 1 (.slice (some ⟨g6, 0, none⟩) (xs.length + 1) c6) (xs.length + 1) ((xs ++ [N]).map (Value.int .i64)) := by rw [List.map_append]; exact hown6
              have hia6 := IntsAt.of_own hown6'
              have hg6 := hown6.lt g6 rfl
              have hne6 : (Value.slice An nx.length cn).ownBlock ≠ some g6 := fun e => by
                have := HROW.out.lt g6 e
                omega
              have hb7 : Below wr.heap.size wr (w6.alloc (.cells #[.slice (some ⟨g6, 0, none⟩) (xs.length + 1) c6] 27)) := hb6.trans ((Below.refl _ w6).alloc hb6.size _)
              have hia7 := hia6.keep ((Below.refl _ w6).alloc (Nat.le_refl _) (.cells #[.slice (some ⟨g6, 0, none⟩) (xs.length + 1) c6] 27)) (Nat.le_refl _)
              have hg7 : g6 < (w6.alloc (.cells #[.slice (some ⟨g6, 0, none⟩) (xs.length + 1) c6] 27)).heap.size := by simp; omega
              have HIA := Lib.hid hia7
              have HG := Lib.hid hg7
              have HNE := Lib.hid hne6
              have HB7 := Lib.hid hb7
              have HBW := Lib.hid (show w1.heap.size ≤ (w6.alloc (.cells #[.slice (some ⟨g6, 0, none⟩) (xs.length + 1) c6] 27)).heap.size from Nat.le_trans HBE2.out.size hb7.size)
              clear hown6 hown6' hgrow6 hb6 hia6 hg6 hne6 hb7 hia7 hg7 HB5 HO5 HIU HNU
              go_wp2_with (at_builtin; refine wpList_app_row rfl _ _ rfl w1.heap.size _ nx rfl (HROW.out.keep HB7.out) w6.heap.size g6 (xs.length + 1) c6 (xs ++ [N]) rfl (Go.heap_alloc_new w6 _) HG.out HNE.out HIA.out (by simp) HNL.out HBW.out ?_)
              intro v8 w8 hrow8 hb8
              have HR8 := Lib.hid hrow8
              have HB8 := Lib.hid ((HBE2.out.trans (HB7.out.mono HBE2.out.size)).trans hb8)
              clear hrow8 hb8 HIA HG HNE HB7 HBW HROW
              go_wp2_with fail
              go_roundw
              case rel => exact ⟨j + 1, by omega, by rw [HN.out], by rw [HXS.out, HEXT.out]; exact HR8.out, HB8.out⟩
              case measure => simp only [intOf]; exact HMS.out
            · have hlj' : decide (lo + (j : Int) ≤ lo + (mm : Int) - 1) = false := by simp; omega
              obtain rfl : j = mm := by omega
              rw [← nextL_succ hlc] at hrow
              have HROW := Lib.hid hrow
              have HBE2 := Lib.hid hbe
              clear hrow hbe
              go_wp2_with fail
              go_roundw
              case rel => exact ⟨c + 1, by omega, by go_num, HROW.out, HBE2.out⟩
              case measure => simp [intOf]; omega
        · have hlc' : decide ((c : Int) < (ls.length : Int)) = false := by simpa using hlc
          obtain rfl : c = ls.length := by omega
          rw [HFULL.out] at hrow
          have HROW := Lib.hid (hrow.lists HPOSN.out)
          have HBE2 := Lib.hid (HBE.out.trans (hbe.mono HBE.out.size))
          clear hrow hbe
          go_wp2_with fail
          go_roundw
          case rel => exact ⟨k + 1, by omega, by go_num, HROW.out, HBE2.out⟩
          case measure => simp [intOf]; omega
    · have hlt' : decide ((k : Int) < (l1.length : Int)) = false := by simpa using hlt
      obtain rfl : k = l1.length := by omega
      obtain ⟨Ao, co, rfl⟩ := hls.slice
      have HLS := Lib.hid hls
      have HBE := Lib.hid hbe
      clear hls hbe
      go_wp2_with fail
      go_ret
      exact ⟨_, rfl, HLS.out, HBE.out⟩
end Go.Proofs.Ytefhdcecbmgljaa
namespace Go.Proofs.Ytefhdcecbmgljaa
open Go.RowKit Go.WalkArith

/-- Six Booleans in a block. -/
def boolsA (f : Nat → Bool) : Array Value := #[.bool (f 0), .bool (f 1), .bool (f 2), .bool (f 3), .bool (f 4), .bool (f 5)]
def updB (f : Nat → Bool) (j : Nat) (v : Bool) : Nat → Bool := fun i => if i = j then v else f i
theorem boolsA_cell {w : World} {B t : Nat} {fr : Nat × Nat} {f : Nat → Bool} (h : w.heap[B]? = some (.cells (boolsA f) t fr)) {j : Nat} (hj : j < 6) : w.cell? ⟨B, j, none⟩ = some (.bool (f j)) := by
  have h6 : j = 0 ∨ j = 1 ∨ j = 2 ∨ j = 3 ∨ j = 4 ∨ j = 5 := by omega
  rcases h6 with rfl | rfl | rfl | rfl | rfl | rfl <;> simp [World.cell?, h, boolsA]
theorem boolsA_soft {w : World} {B t : Nat} {f : Nat → Bool} (h : w.heap[B]? = some (.cells (boolsA f) t (0, 0))) (j : Nat) : w.frozen? ⟨B, j, none⟩ = false := by simp [World.frozen?, h]
theorem boolsA_set {w : World} {B t : Nat} {fr : Nat × Nat} {f : Nat → Bool} (h : w.heap[B]? = some (.cells (boolsA f) t fr)) {j : Nat} (hj : j < 6) (v : Bool) : (w.setCell ⟨B, j, none⟩ (.bool v)).heap[B]? = some (.cells (boolsA (updB f j v)) t fr) := by
  obtain ⟨hlt, hg⟩ := Array.getElem?_eq_some_iff.1 h
  have h6 : j = 0 ∨ j = 1 ∨ j = 2 ∨ j = 3 ∨ j = 4 ∨ j = 5 := by omega
  rcases h6 with rfl | rfl | rfl | rfl | rfl | rfl <;> simp [World.setCell, hlt, Array.getElem_modify, hg, boolsA, updB]
theorem BoolsAt.at3 {W : World} {A : Option Addr} {n cap : Nat} {xs : List Bool} (h : BoolsAt W (.slice A n cap) xs) {k : Nat} (hk : k < xs.length) : ∃ b o, A = some ⟨b, o, none⟩ ∧ W.cell? ⟨b, o + k, none⟩ = some (.bool xs[k]) := by
  obtain ⟨A', cap', he, hc⟩ := h
  cases he
  obtain ⟨b, o, rfl, hd⟩ := hc.resolve_left (fun h => by rw [h] at hk; simp at hk)
  exact ⟨b, o, rfl, hd k hk⟩
theorem rplay_lit (s : St) (A : Option Addr) (cp : Nat) (Ac Ak : Option Addr) (cc ck : Nat) (c k : List Int) (t : Int) (Ab : Option Addr) (cb : Nat) (bs : List Int) (w : World) (hok : planL s c k = 0) (htb : truthB s t bs = true) (hA : NtsAt w A s.ns) (hc : IntsAt w (.slice Ac c.length cc) c) (hk : IntsAt w (.slice Ak k.length ck) k) (hv : IntsAt w (.slice Ab bs.length cb) bs) :
    Calls Try.prog 26 #[.agg #[.int .i64 s.cap, .int .i64 s.can, .int .i64 s.sl, .int .i64 s.sh, .slice A s.ns.length cp], .agg #[.slice Ac c.length cc, .slice Ak k.length ck], .agg #[.int .i64 t, .slice Ab bs.length cb]] w fun e w' => ∃ v1 v2 A3 c3, e = .returned (.tuple #[v1, v2, .slice A3 (litsL s (atL c) (atL k) (atL bs) t s.ns.length).length c3]) ∧ w'.ownsRow w.heap.size 4 1 (.slice A3 (litsL s (atL c) (atL k) (atL bs) t s.ns.length).length c3) (litsL s (atL c) (atL k) (atL bs) t s.ns.length).length ((litsL s (atL c) (atL k) (atL bs) t s.ns.length).map Value.bool) ∧ Below w.heap.size w w' :=
  (rplay_any s A cp Ac Ak cc ck c k t Ab cb bs w hok htb hA hc hk hv).mono fun e w' ⟨h1, v1, v2, v3, he, h4, h5, h6⟩ => by
    subst he
    have i3 := BoolsAt.of_own h6
    obtain ⟨A3, c3, rfl, j3⟩ := id i3
    exact ⟨v1, v2, A3, c3, rfl, h6, h1⟩
/-- The nights that have been dark among the first truths; those of one more truth, up to a night. -/
def canF (s : St) (c k : Nat → Int) (m : Nat) (i : Nat) : Bool := decide (i < s.ns.length) && nDark s c k m i
def canJ (s : St) (c k : Nat → Int) (m j : Nat) (i : Nat) : Bool := if i < j then canF s c k (m + 1) i else canF s c k m i
theorem canJ_step {s : St} {c k : Nat → Int} {m j : Nat} (hj : j < s.ns.length) : updB (canJ s c k m j) j (canF s c k m j || !nLit s c k m j) = canJ s c k m (j + 1) := by
  funext i
  unfold updB canJ
  by_cases e : i = j
  · subst e
    rw [if_pos rfl, if_pos (by omega)]
    unfold canF
    rw [nDark_succ]; simp [hj]
  · rw [if_neg e]
    by_cases e2 : i < j
    · rw [if_pos e2, if_pos (by omega)]
    · rw [if_neg e2, if_neg (by omega)]
theorem canJ_end {s : St} {c k : Nat → Int} {m : Nat} : canJ s c k m s.ns.length = canF s c k (m + 1) := by
  funext i
  unfold canJ
  split
  · rfl
  · rename_i h; unfold canF; simp [h]
theorem canJ_zero {s : St} {c k : Nat → Int} {m : Nat} : canJ s c k m 0 = canF s c k m := by funext i; unfold canJ; simp
def RDaRel (s : St) (c k : Nat → Int) (w : World) (Bs Bp Bc : Nat) (os op : Obj) (n : Value) (wr : World) : Prop :=
  ∃ m : Nat, m ≤ manyN s ∧ n = .int .i64 m ∧ wr.heap[Bs]? = some os ∧ wr.heap[Bp]? = some op ∧ wr.heap[Bc]? = some (.cells (boolsA (canF s c k m)) 143 (0, 0)) ∧ Below w.heap.size w wr
def RDaIn (s : St) (c k : Nat → Int) (m : Nat) (w0 : World) (Bc : Nat) (i : Value) (wr : World) : Prop :=
  ∃ j : Nat, j ≤ s.ns.length ∧ i = .int .i64 j ∧ wr.heap[Bc]? = some (.cells (boolsA (canJ s c k m j)) 143 (0, 0)) ∧ (∀ b, b ≠ Bc → b < w0.heap.size → wr.heap[b]? = w0.heap[b]?) ∧ w0.heap.size ≤ wr.heap.size ∧ wr.os = w0.os ∧ wr.tape = w0.tape ∧ wr.output = w0.output
def RDaOut (s : St) (c k : Nat → Int) (w0 : World) (v i : Value) (wr : World) : Prop :=
  ∃ j : Nat, j ≤ s.ns.length ∧ i = .int .i64 j ∧ wr.ownsRow w0.heap.size 3 1 v (darkTo s c k j).length ((darkTo s c k j).map (Value.int .i64)) ∧ Below w0.heap.size w0 wr

set_option maxRecDepth 100000 in
set_option maxHeartbeats 8000000 in
theorem rdark_any (s : St) (A : Option Addr) (cp : Nat) (Ac Ak : Option Addr) (cc ck : Nat) (c k : List Int) (w : World) (hok : planL s c k = 0) (hA : NtsAt w A s.ns) (hc : IntsAt w (.slice Ac c.length cc) c) (hk : IntsAt w (.slice Ak k.length ck) k) :
    Calls Try.prog 52 #[.agg #[.int .i64 s.cap, .int .i64 s.can, .int .i64 s.sl, .int .i64 s.sh, .slice A s.ns.length cp], .agg #[.slice Ac c.length cc, .slice Ak k.length ck]] w fun e w' => ∃ A1 c1, e = .returned (.slice A1 (darkL s (atL c) (atL k)).length c1) ∧ IntsAt w' (.slice A1 (darkL s (atL c) (atL k)).length c1) (darkL s (atL c) (atL k)) ∧ Below w.heap.size w w' := by
  have HA := Lib.hid hA
  have HC := Lib.hid hc
  have HK := Lib.hid hk
  have HP := Lib.hid hok
  obtain ⟨hs, -, -, hpl⟩ := planL_zero.1 hok
  have HO := Lib.hid hs
  have HPL := Lib.hid hpl
  have h6 := hs.len
  have hpos := hs.pos
  have hbig : manyN s ≤ 710395961 := manyTo_big hs (Nat.le_refl _)
  have HB1 := Lib.hid (show Below w.heap.size w (((w.alloc (.cells #[.int .i64 s.cap, .int .i64 s.can, .int .i64 s.sl, .int .i64 s.sh, .slice A s.ns.length cp] 26)).alloc (.cells #[.slice Ac c.length cc, .slice Ak k.length ck] 29)).alloc (.cells #[.bool false, .bool false, .bool false, .bool false, .bool false, .bool false] 143)) from (((Below.refl _ _).alloc (Nat.le_refl _) _).alloc (by simp) _).alloc (by simp; omega) _)
  have HN1 := Lib.hid (show (((w.alloc (.cells #[.int .i64 s.cap, .int .i64 s.can, .int .i64 s.sl, .int .i64 s.sh, .slice A s.ns.length cp] 26)).alloc (.cells #[.slice Ac c.length cc, .slice Ak k.length ck] 29)).alloc (.cells #[.bool false, .bool false, .bool false, .bool false, .bool false, .bool false] 143)).heap[w.heap.size]? = some (.cells #[.int .i64 s.cap, .int .i64 s.can, .int .i64 s.sl, .int .i64 s.sh, .slice A s.ns.length cp] 26 (0, 0)) from (Below.heap_alloc _ _ _ (by simp <;> omega)).trans ((Below.heap_alloc _ _ _ (by simp <;> omega)).trans (heap_new_at _ _ _ rfl)))
  have HP1 := Lib.hid (show (((w.alloc (.cells #[.int .i64 s.cap, .int .i64 s.can, .int .i64 s.sl, .int .i64 s.sh, .slice A s.ns.length cp] 26)).alloc (.cells #[.slice Ac c.length cc, .slice Ak k.length ck] 29)).alloc (.cells #[.bool false, .bool false, .bool false, .bool false, .bool false, .bool false] 143)).heap[w.heap.size + 1]? = some (.cells #[.slice Ac c.length cc, .slice Ak k.length ck] 29 (0, 0)) from (Below.heap_alloc _ _ _ (by simp <;> omega)).trans (heap_alloc2 _ _ _))
  have HC1 := Lib.hid (show (((w.alloc (.cells #[.int .i64 s.cap, .int .i64 s.can, .int .i64 s.sl, .int .i64 s.sh, .slice A s.ns.length cp] 26)).alloc (.cells #[.slice Ac c.length cc, .slice Ak k.length ck] 29)).alloc (.cells #[.bool false, .bool false, .bool false, .bool false, .bool false, .bool false] 143)).heap[w.heap.size + 1 + 1]? = some (.cells (boolsA (canF s (atL c) (atL k) 0)) 143 (0, 0)) from (heap_new_at _ _ _ (by simp)).trans (by simp [boolsA, canF, nDark]))
  clear hA hc hk hok hs hpl
  go_enter Try.func52, Try.ntmps52
  go_wp2_with fail
  generalize ((w.alloc (.cells #[.int .i64 s.cap, .int .i64 s.can, .int .i64 s.sl, .int .i64 s.sh, .slice A s.ns.length cp] 26)).alloc (.cells #[.slice Ac c.length cc, .slice Ak k.length ck] 29)).alloc (.cells #[.bool false, .bool false, .bool false, .bool false, .bool false, .bool false] 143) = w1 at HB1 HN1 HP1 HC1 ⊢
  obtain ⟨Bc, hBc⟩ : ∃ B, w.heap.size + 1 + 1 = B := ⟨_, rfl⟩
  obtain ⟨Bp, hBp⟩ : ∃ B, w.heap.size + 1 = B := ⟨_, rfl⟩
  obtain ⟨Bs, hBs⟩ : ∃ B, w.heap.size = B := ⟨_, rfl⟩
  rw [hBc] at HC1 ⊢
  rw [hBp] at HP1 ⊢
  rw [hBs] at HN1 ⊢
  have o1 : w.heap.size ≤ Bs := by omega
  have o2 : Bs < Bp := by omega
  have o3 : Bp < Bc := by omega
  clear hBc hBp hBs
  go_loopw [6] (RDaRel s (atL c) (atL k) w Bs Bp Bc (.cells #[.int .i64 s.cap, .int .i64 s.can, .int .i64 s.sl, .int .i64 s.sh, .slice A s.ns.length cp] 26 (0, 0)) (.cells #[.slice Ac c.length cc, .slice Ak k.length ck] 29 (0, 0))) (fun n _ => manyN s - (intOf n).toNat)
  case atStart => exact ⟨0, by omega, rfl, HN1.out, HP1.out, HC1.out, HB1.out⟩
  case round =>
    clear HB1 HN1 HP1 HC1
    obtain ⟨m, hm, rfl, hn0, hn1, hn2, hbe⟩ := hrel
    have HBE := Lib.hid hbe
    have HN0 := Lib.hid hn0
    have HN1 := Lib.hid hn1
    have HN2 := Lib.hid hn2
    obtain ⟨s0, s1, s2, s3, s4⟩ := cells5 hn0
    obtain ⟨p0, p1⟩ := cells2 hn1
    have hma := Lib.hid (many_any s A cp wr HO.out (HA.out.keep hbe (Nat.le_refl _)))
    clear hbe hn0 hn1 hn2
    go_wp2_with fail
    with_reducible refine hma.out.mono ?_
    rintro e w2 ⟨rfl, hb2⟩
    have HB2 := Lib.hid (HBE.out.trans (hb2.mono HBE.out.size))
    have hq0 := (hb2.block Bs (Array.getElem?_eq_some_iff.1 HN0.out).1).trans HN0.out
    have hq1 := (hb2.block Bp (Array.getElem?_eq_some_iff.1 HN1.out).1).trans HN1.out
    have HN02 := Lib.hid hq0
    have HN12 := Lib.hid hq1
    have HB2S := Lib.hid (show Bc < w2.heap.size from Nat.lt_of_lt_of_le (Array.getElem?_eq_some_iff.1 HN2.out).1 hb2.size)
    have HN22 := Lib.hid ((hb2.block Bc (Array.getElem?_eq_some_iff.1 HN2.out).1).trans HN2.out)
    clear s0 s1 s2 s3 s4 p0 p1 hma hb2
    obtain ⟨s0, s1, s2, s3, s4⟩ := cells5 hq0
    obtain ⟨p0, p1⟩ := cells2 hq1
    clear hq0 hq1 HBE HN0 HN1 HN2
    by_cases hlt : m < manyN s
    · have hlt' : decide ((m : Int) < (manyN s : Int)) = true := by simpa using hlt
      have htr := nthL_truth HO.out hlt
      go_wp2_with fail
      go_region_held3 (fun X => X.cell? ⟨Bs, 0, none⟩ = some (.int .i64 s.cap) ∧ X.cell? ⟨Bs, 1, none⟩ = some (.int .i64 s.can) ∧ X.cell? ⟨Bs, 2, none⟩ = some (.int .i64 s.sl) ∧ X.cell? ⟨Bs, 3, none⟩ = some (.int .i64 s.sh) ∧ X.cell? ⟨Bs, 4, none⟩ = some (.slice A s.ns.length cp) ∧ X.cell? ⟨Bp, 0, none⟩ = some (.slice Ac c.length cc) ∧ X.cell? ⟨Bp, 1, none⟩ = some (.slice Ak k.length ck))
        (first | go_keep | exact ⟨cell_later hb3 s0, cell_later hb3 s1, cell_later hb3 s2, cell_later hb3 s3, cell_later hb3 s4, cell_later hb3 p0, cell_later hb3 p1⟩ | exact ⟨cell_later hb4 (cell_later hb3 s0), cell_later hb4 (cell_later hb3 s1), cell_later hb4 (cell_later hb3 s2), cell_later hb4 (cell_later hb3 s3), cell_later hb4 (cell_later hb3 s4), cell_later hb4 (cell_later hb3 p0), cell_later hb4 (cell_later hb3 p1)⟩)
        (first | (go_at_call 93; refine (nth_any s A cp m w2.drew HO.out hlt (HA.out.keep HB2.out.drew (Nat.le_refl _))).mono ?_; rintro e w3 ⟨Ab, cb, rfl, hab, hb3⟩; have hB3 := HB2.out.drew.trans (hb3.mono HB2.out.drew.size)) | (go_at_call 26; refine (rplay_lit s A cp Ac Ak cc ck c k (nthT s m) Ab cb (nthL s m) w3 HP.out htr (HA.out.keep hB3 (Nat.le_refl _)) (HC.out.keep hB3 (Nat.le_refl _)) (HK.out.keep hB3 (Nat.le_refl _)) hab).mono ?_; rintro e w4 ⟨v1, v2, L3, lc3, rfl, hl3, hb4⟩))
      have hl3 := hl3.lower (base' := w2.heap.size) hb3.size
      have hb24 : Below w2.heap.size w2 w4 := ((Below.refl _ w2).drew.trans hb3).trans (hb4.mono hb3.size)
      have HB4 := Lib.hid (HB2.out.trans (hb24.mono HB2.out.size))
      have HN04 := Lib.hid ((hb24.block Bs (Array.getElem?_eq_some_iff.1 HN02.out).1).trans HN02.out)
      have HN14 := Lib.hid ((hb24.block Bp (Array.getElem?_eq_some_iff.1 HN12.out).1).trans HN12.out)
      have HN24 := Lib.hid ((hb24.block Bc (Array.getElem?_eq_some_iff.1 HN22.out).1).trans HN22.out)
      have hLL := litsL_len s (atL c) (atL k) (atL (nthL s m)) (nthT s m) s.ns.length
      have hLi : ∀ i (h : i < (litsL s (atL c) (atL k) (atL (nthL s m)) (nthT s m) s.ns.length).length), (litsL s (atL c) (atL k) (atL (nthL s m)) (nthT s m) s.ns.length)[i] = nLit s (atL c) (atL k) m i := fun i h => by simp [litsL, nLit, nOil]
      generalize litsL s (atL c) (atL k) (atL (nthL s m)) (nthT s m) s.ns.length = lits at hLL hLi hl3 ⊢
      have lBc := (Array.getElem?_eq_some_iff.1 HN24.out).1
      have HL3 := Lib.hid hl3
      have HLI := Lib.hid hLi
      have HLN := Lib.hid hLL
      have hl6 : lits.length ≤ 6 := by omega
      clear hb3 hb4 hB3 hab hb24 htr HN02 HN12 HN22 HB2 s0 s1 s2 s3 s4 p0 p1 hl3 hLi hLL
      go_wp2_with fail
      go_loopw [10] (RDaIn s (atL c) (atL k) m w4 Bc) (fun i _ => s.ns.length - (intOf i).toNat)
      case atStart => exact ⟨0, by omega, rfl, by rw [canJ_zero]; exact HN24.out, fun _ _ _ => rfl, Nat.le_refl _, rfl, rfl, rfl⟩
      case round =>
        rename_i wq
        obtain ⟨j, hj, rfl, hcn, hblk, hsz, hos, hta, hou⟩ := hrel
        have HCN := Lib.hid hcn
        have HBK := Lib.hid hblk
        have HXX := Lib.hid (And.intro hos (And.intro hta hou))
        clear hcn hblk hos hta hou
        by_cases hlj : j < s.ns.length
        · have hlj' : decide ((j : Int) < (lits.length : Int)) = true := by have := HLN.out; simp; omega
          have hjl : j < lits.length := by have := HLN.out; omega
          obtain ⟨gl, hL1, hgl2⟩ : ∃ gl, L3 = some ⟨gl, 0, none⟩ ∧ w2.heap.size ≤ gl := by
            rcases HL3.out.2 with ⟨_, h0⟩ | ⟨g', cap', cur, he, hge, _⟩
            · omega
            · simp only [Value.slice.injEq] at he
              exact ⟨g', he.1, hge⟩
          subst hL1
          have hneq : gl ≠ Bc := by have := HB2S.out; omega
          have hglt := (HL3.out.lt gl rfl).2
          have hd := (own_cell1 HL3.out).1 j (.bool (nLit s (atL c) (atL k) m j)) (by rw [List.getElem?_map, List.getElem?_eq_getElem hjl, HLI.out j hjl]; rfl)
          have d0 : wr.cell? ⟨gl, j, none⟩ = some (.bool (nLit s (atL c) (atL k) m j)) := by
            have := HBK.out gl hneq hglt
            simp only [World.cell?, this]; simpa [World.cell?] using hd
          have hj6 : j < 6 := by omega
          have c0 := boolsA_cell HCN.out hj6
          rw [show canJ s (atL c) (atL k) m j j = canF s (atL c) (atL k) m j by simp [canJ]] at c0
          have z0 := boolsA_soft HCN.out j
          have hset := boolsA_set HCN.out hj6 (canF s (atL c) (atL k) m j || !nLit s (atL c) (atL k) m j)
          rw [canJ_step hlj] at hset
          have i1 : (0 : Int) ≤ (j : Int) := by omega
          have i2 : (j : Int) < (lits.length : Int) := by omega
          have i3 : (j : Int) < 6 := by omega
          have hbk : ∀ v b', b' ≠ Bc → b' < w4.heap.size → (wr.setCell ⟨Bc, j, none⟩ v).heap[b']? = w4.heap[b']? := fun v b' h1 h2 => (Below.heap_setCell _ _ _ _ h1).trans (HBK.out b' h1 h2)
          have hsz8 : ∀ v, w4.heap.size ≤ (wr.setCell ⟨Bc, j, none⟩ v).heap.size := fun v => by simp [World.setCell]; exact hsz
          have hxx8 : ∀ v, (wr.setCell ⟨Bc, j, none⟩ v).os = w4.os ∧ (wr.setCell ⟨Bc, j, none⟩ v).tape = w4.tape ∧ (wr.setCell ⟨Bc, j, none⟩ v).output = w4.output := fun v => HXX.out
          have HK8 := Lib.hid hbk
          have HS8 := Lib.hid hsz8
          have HX8 := Lib.hid hxx8
          clear hd hbk hsz8 hxx8
          cases hcv : canF s (atL c) (atL k) m j with
          | true =>
            rw [hcv] at c0 hset
            rw [Bool.true_or] at hset
            have HSET := Lib.hid hset
            clear hcv hset
            go_wp2_with fail
            go_roundw
            case rel => exact ⟨j + 1, by omega, by go_num, HSET.out, HK8.out _, HS8.out _, HX8.out _⟩
            case measure => simp [intOf]; omega
          | false =>
            rw [hcv] at c0 hset
            rw [Bool.false_or] at hset
            obtain ⟨V, hV⟩ : ∃ V, nLit s (atL c) (atL k) m j = V := ⟨_, rfl⟩
            rw [hV] at d0 hset
            clear hcv hV
            cases V with
            | true =>
              have HSET := Lib.hid hset
              simp only [Bool.not_true] at HSET
              clear hset
              go_wp2_with fail
              go_roundw
              case rel => exact ⟨j + 1, by omega, by go_num, HSET.out, HK8.out _, HS8.out _, HX8.out _⟩
              case measure => simp [intOf]; omega
            | false =>
              have HSET := Lib.hid hset
              simp only [Bool.not_false] at HSET
              clear hset
              go_wp2_with fail
              go_roundw
              case rel => exact ⟨j + 1, by omega, by go_num, HSET.out, HK8.out _, HS8.out _, HX8.out _⟩
              case measure => simp [intOf]; omega
        · have hlj' : decide ((j : Int) < (lits.length : Int)) = false := by have := HLN.out; simp; omega
          obtain rfl : j = s.ns.length := by omega
          have hle : lits.length ≤ s.ns.length := by have := HLN.out; omega
          have hdn : decide (s.ns.length < lits.length) = false := by simp; omega
          have hc9 := HCN.out
          rw [canJ_end] at hc9
          have lBs := (Array.getElem?_eq_some_iff.1 HN04.out).1
          have lBp := (Array.getElem?_eq_some_iff.1 HN14.out).1
          have hs9 := (HBK.out Bs (by omega) lBs).trans HN04.out
          have hp9 := (HBK.out Bp (by omega) lBp).trans HN14.out
          have hbw : Below w.heap.size w wr := HB4.out.trans ⟨HXX.out.1, HXX.out.2.1, HXX.out.2.2, hsz, fun k' hk' => HBK.out k' (by omega) (by have := HB4.out.size; omega)⟩
          have HF9 := Lib.hid (And.intro hs9 (And.intro hp9 (And.intro hc9 hbw)))
          clear hs9 hp9 hc9 hbw
          go_wp2_with fail
          go_roundw
          case rel => exact ⟨m + 1, by omega, by go_num, HF9.out.1, HF9.out.2.1, HF9.out.2.2.1, HF9.out.2.2.2⟩
          case measure => simp [intOf]; omega
    · have hlt' : decide ((m : Int) < (manyN s : Int)) = false := by simpa using hlt
      obtain rfl : m = manyN s := by omega
      clear s0 s1 s2 s3 s4 p0 p1
      go_wp2_with fail
      go_loopw [11, 12] (RDaOut s (atL c) (atL k) w2) (fun _ i _ => s.ns.length - (intOf i).toNat)
      case atStart => exact ⟨0, by omega, rfl, World.ownsRow_nil _ _ _ _, Below.refl _ _⟩
      case round =>
        rename_i wq
        obtain ⟨j, hj, rfl, hown, hbe⟩ := hrel
        have hws := hbe.size
        have HOW := Lib.hid hown
        have HX := Lib.hid hbe
        obtain ⟨_, _, _, _, s4⟩ := cells5 ((hbe.block Bs (Array.getElem?_eq_some_iff.1 HN02.out).1).trans HN02.out)
        have hcn := (hbe.block Bc (Array.getElem?_eq_some_iff.1 HN22.out).1).trans HN22.out
        have hdl := darkTo_len s (atL c) (atL k) j
        clear hown hbe
        by_cases hlj : j < s.ns.length
        · have hlj' : decide ((j : Int) < (s.ns.length : Int)) = true := by simpa using hlj
          have c0 := boolsA_cell hcn (j := j) (by omega)
          have hcv : canF s (atL c) (atL k) (manyN s) j = !wLit s (atL c) (atL k) j := by
            unfold canF; rw [nDark_all HO.out HPL.out hlj]; simp [hlj]
          rw [hcv] at c0
          have hds := darkTo_succ s (atL c) (atL k) j
          have i1 : (0 : Int) ≤ (j : Int) := by omega
          have i2 : (j : Int) < (s.ns.length : Int) := by omega
          have i3 : (j : Int) < 6 := by omega
          clear hcv hcn
          cases hwl : wLit s (atL c) (atL k) j with
          | true =>
            rw [hwl] at c0 hds
            have HDS := Lib.hid hds
            simp only [Bool.not_true] at c0
            clear hwl hds
            go_wp2_with fail
            go_roundw
            case rel => exact ⟨j + 1, by omega, by go_num, by rw [HDS.out]; exact HOW.out, HX.out⟩
            case measure => simp [intOf]; omega
          | false =>
            rw [hwl] at c0 hds
            have HDS := Lib.hid hds
            simp only [Bool.not_false] at c0
            clear hwl hds
            go_wp2_with (at_builtin; refine wpList_app_int rfl _ _ rfl w2.heap.size u11 (darkTo s (atL c) (atL k) j) (j : Int) wr.heap.size rfl (HOW.out.alloc _) rfl (Go.heap_alloc_new wr _) (by omega) (by simp; omega) _ rfl ?_)
            intro g cap W6 hown6 hgrow hg6 hlt6
            have hx6 : Below w2.heap.size wr W6 := ((Below.refl _ wr).alloc (by omega) _).trans (below_of_grown hgrow (HOW.out.alloc _) (Nat.le_refl _) (by simp; omega))
            have HB6 := Lib.hid (HX.out.trans (hx6.mono (Nat.le_refl _)))
            have HOO6 := Lib.hid (show W6.ownsRow w2.heap.size 3 1 (.slice (some ⟨g, 0, none⟩) ((darkTo s (atL c) (atL k) j).length + 1) cap) (darkTo s (atL c) (atL k) (j + 1)).length ((darkTo s (atL c) (atL k) (j + 1)).map (Value.int .i64)) by rw [HDS.out]; simpa using hown6)
            clear hown6 hgrow hg6 hlt6 hx6
            go_wp2_with fail
            go_roundw
            case rel => exact ⟨j + 1, by omega, by go_num, HOO6.out, HB6.out⟩
            case measure => simp [intOf]; omega
        · have hlj' : decide ((j : Int) < (s.ns.length : Int)) = false := by simpa using hlj
          obtain rfl : j = s.ns.length := by omega
          have hI : IntsAt wr u11 (darkL s (atL c) (atL k)) := IntsAt.of_own HOW.out
          obtain ⟨A1, c1, rfl, _⟩ := id hI
          have HI := Lib.hid hI
          clear hI hcn
          go_wp2_with fail
          go_ret
          exact ⟨A1, c1, rfl, HI.out, HB2.out.trans (HX.out.mono HB2.out.size)⟩
end Go.Proofs.Ytefhdcecbmgljaa
namespace Go.Proofs.Ytefhdcecbmgljaa
open Go.RowKit Go.WalkArith

section
variable {w : World} {ops : Array Oper} {o : Oper} {a : Act} {K : Act → World → Prop} {Q : Exit → Act → World → Prop} {E : Prop}
/-- A step of a region: one number is appended to a row of the call's own. -/
theorem step_app_int (hgd : o.guard = none) (s x : Operand) (ho : o.op = .call { callee := .builtin .append, args := #[s, x], argTypes := #[27, 27] }) (base : Nat) (v : Value) (xs : List Int) (y : Int) (B : Nat)
    (hs : a.eval s = v) (hown : w.ownsRow base 3 1 v xs.length (xs.map (Value.int .i64))) (hx : a.eval x = .slice (some ⟨B, 0, none⟩) 1 1) (hB : w.heap[B]? = some (.cells #[.int .i64 y] 3 (0, 0))) (hl : xs.length ≤ 1000000) (hbase : base ≤ w.heap.size)
    (h : ∀ g cap w', w'.ownsRow base 3 1 (.slice (some ⟨g, 0, none⟩) (xs.length + 1) cap) (xs ++ [y]).length ((xs ++ [y]).map (Value.int .i64)) → w.grownBy w' v.ownBlock → (v.ownBlock = some g ∨ g = w.heap.size) → K (a.put o.dst (.slice (some ⟨g, 0, none⟩) (xs.length + 1) cap)) w') :
    if Region.wanted o (yielded ops a.tmps) = true then Oper.wp Try.prog o a w K Q else E := by
  obtain ⟨i0, hi0, hz0, hz1, hz2⟩ := info_parts Try.info3
  refine step_append_lies w hgd s x 27 ho base 3 i0 (.int .i64 0) 1 8 Try.underlying27 hi0 hz0 hz1 hz2 rfl (by decide) v xs.length _ hs hown ⟨B, 0, none⟩ 1 1 [.int .i64 y] hx rfl (World.news_of_block (cs := #[.int .i64 y]) (t := 3) (fr := (0, 0)) hB) (by simp [Value.oneCell']) (by omega) (by unfold maxLen; omega) (by omega) hbase _ rfl ?_
  intro g cap w' h1 h2 h3 h4
  refine h g cap w' ?_ h2 h3
  rw [List.map_append, List.length_append]; exact h1
end

/-- Two rows of numbers of the call's own, in different blocks. -/
structure TS (w1 W : World) (lo hi : Value) (xs ys : List Int) : Prop where
  rlo : W.ownsRow w1.heap.size 3 1 lo xs.length (xs.map (Value.int .i64))
  rhi : W.ownsRow w1.heap.size 3 1 hi ys.length (ys.map (Value.int .i64))
  ap : Apart lo hi
  be : Below w1.heap.size w1 W
/-- A block with one number, besides the two rows. -/
structure EB (W : World) (B : Nat) (y : Int) (lo hi : Value) : Prop where
  cell : W.heap[B]? = some (.cells #[.int .i64 y] 3 (0, 0))
  nlo : lo.ownBlock ≠ some B
  nhi : hi.ownBlock ≠ some B
theorem TS.start (w1 : World) : TS w1 w1 (.slice none 0 0) (.slice none 0 0) [] [] := ⟨World.ownsRow_nil _ _ _ _, World.ownsRow_nil _ _ _ _, Apart.nil _, Below.refl _ _⟩
theorem TS.swap {w1 W : World} {lo hi : Value} {xs ys : List Int} (h : TS w1 W lo hi xs ys) : TS w1 W hi lo ys xs := ⟨h.rhi, h.rlo, h.ap.symm, h.be⟩
theorem EB.swap {W : World} {B : Nat} {y : Int} {lo hi : Value} (h : EB W B y lo hi) : EB W B y hi lo := ⟨h.cell, h.nhi, h.nlo⟩
theorem TS.drew {w1 W : World} {lo hi : Value} {xs ys : List Int} (h : TS w1 W lo hi xs ys) : TS w1 W.drew lo hi xs ys := ⟨h.rlo.drew, h.rhi.drew, h.ap, h.be.drew⟩
theorem TS.alloc {w1 W : World} {lo hi : Value} {xs ys : List Int} (h : TS w1 W lo hi xs ys) (o : Obj) : TS w1 (W.alloc o) lo hi xs ys := ⟨h.rlo.alloc o, h.rhi.alloc o, h.ap, h.be.alloc h.be.size o⟩
theorem TS.new {w1 W : World} {lo hi : Value} {xs ys : List Int} (h : TS w1 W lo hi xs ys) (y : Int) : EB (W.alloc (.cells #[.int .i64 y] 3)) W.heap.size y lo hi :=
  ⟨Go.heap_alloc_new W _, fun e => by have := h.rlo.lt _ e; omega, fun e => by have := h.rhi.lt _ e; omega⟩
theorem EB.alloc {W : World} {B : Nat} {y : Int} {lo hi : Value} (h : EB W B y lo hi) (o : Obj) : EB (W.alloc o) B y lo hi :=
  ⟨(Below.heap_alloc _ _ _ (by have := (Array.getElem?_eq_some_iff.1 h.cell).1; omega)).trans h.cell, h.nlo, h.nhi⟩
theorem TS.make {w1 W : World} {hi : Value} {ys : List Int} (h : TS w1 W (.slice none 0 0) hi [] ys) (n : Nat) (hn : n ≤ 1000) : TS w1 (W.alloc (.cells (madeCells #[.int .i64 0] n) 3)) (.slice (some ⟨W.heap.size, 0, none⟩) n n) hi (List.replicate n 0) ys := by
  refine ⟨?_, h.rhi.alloc _, ?_, h.be.alloc h.be.size _⟩
  · have := World.ownsRow_lit (base := w1.heap.size) (e := 3) (size := 1) W (madeCells #[.int .i64 0] n) n h.be.size (by unfold maxLen; omega) (by rw [size_madeCells]; omega)
    rw [toList_madeCells_one] at this
    rw [List.length_replicate, List.map_replicate]
    exact this
  · intro j h1 h2
    have := h.rhi.lt j h2
    simp [Value.ownBlock] at h1
    omega
theorem TS.grow {w1 W W' : World} {lo hi : Value} {xs ys : List Int} {y : Int} {g cap : Nat} (h : TS w1 W lo hi xs ys) (hown : W'.ownsRow w1.heap.size 3 1 (.slice (some ⟨g, 0, none⟩) (xs.length + 1) cap) (xs ++ [y]).length ((xs ++ [y]).map (Value.int .i64))) (hg : W.grownBy W' lo.ownBlock) (ha : lo.ownBlock = some g ∨ g = W.heap.size) :
    TS w1 W' (.slice (some ⟨g, 0, none⟩) (xs.length + 1) cap) hi (xs ++ [y]) ys := by
  refine ⟨hown, h.rhi.kept hg h.ap.symm.row, ?_, h.be.trans (below_of_grown hg h.rlo (Nat.le_refl _) h.be.size)⟩
  exact (h.ap.symm.grown ha (fun j hj => (h.rhi.lt j hj).2)).symm
theorem EB.grow {W W' : World} {lo hi : Value} {B : Nat} {y : Int} {g n cap : Nat} (h : EB W B y lo hi) (hg : W.grownBy W' lo.ownBlock) (ha : lo.ownBlock = some g ∨ g = W.heap.size) : EB W' B y (.slice (some ⟨g, 0, none⟩) n cap) hi := by
  have hl := (Array.getElem?_eq_some_iff.1 h.cell).1
  refine ⟨(hg.block B hl (fun e => h.nlo e.symm)).trans h.cell, ?_, h.nhi⟩
  intro e
  have e1 : g = B := by simpa [Value.ownBlock] using e
  rcases ha with ha | ha
  · exact h.nlo (by rw [ha, e1])
  · omega
theorem TS.set {w1 W : World} {lo : Value} {xs ys : List Int} {g n cap : Nat} (h : TS w1 W lo (.slice (some ⟨g, 0, none⟩) n cap) xs ys) (hn : n = ys.length) {i : Nat} (hi : i < n) (y : Int) :
    W.cell? ⟨g, i, none⟩ = some (.int .i64 (atL ys i)) ∧ W.frozen? ⟨g, i, none⟩ = false ∧ TS w1 (W.setCell ⟨g, i, none⟩ (.int .i64 y)) lo (.slice (some ⟨g, 0, none⟩) n cap) xs (ys.set i y) := by
  subst hn
  have h1 := h.rhi
  obtain ⟨h2, h3⟩ := h1.stored i (.int .i64 y)
  have h3 : W.grownBy (W.setCell ⟨g, i, none⟩ (.int .i64 y)) (Value.ownBlock (.slice (some ⟨g, 0, none⟩) ys.length cap)) := h3
  refine ⟨?_, h1.frozenAt i, ⟨h.rlo.kept h3 h.ap.row, ?_, h.ap, h.be.trans (below_of_grown h3 h1 (Nat.le_refl _) h.be.size)⟩⟩
  · rw [h1.cellAt i (by omega), List.getElem?_map, List.getElem?_eq_getElem hi, atL_at hi]; rfl
  · rw [List.length_set, List.map_set]; exact h2
/-- Twos up to a place. -/
def hiL (n j : Nat) : List Int := List.replicate j 2 ++ List.replicate (n - j) 0
theorem hiL_len {n j : Nat} (h : j ≤ n) : (hiL n j).length = n := by simp [hiL]; omega
theorem hiL_zero (n : Nat) : hiL n 0 = List.replicate n 0 := by simp [hiL]
theorem hiL_set {n j : Nat} (h : j < n) : (hiL n j).set j 2 = hiL n (j + 1) := by
  unfold hiL
  rw [List.set_append_right _ _ (by simp), List.length_replicate, Nat.sub_self, show n - j = n - (j + 1) + 1 by omega, List.replicate_succ, List.set_cons_zero, List.replicate_succ', List.append_assoc]
  rfl
theorem hiL_at {n i : Nat} (h : i < n) : atL (hiL n n) i = 2 := by simp [hiL, atL, List.getElem?_replicate, h]
theorem atL_zeros (n : Nat) : atL (List.replicate n 0) = fun _ => 0 := by
  funext i
  simp only [atL, List.getD_eq_getElem?_getD, List.getElem?_replicate]
  split <;> rfl
theorem canLists_eq {s : St} {n : Nat} (h : n = s.ns.length) : listsL (atL (List.replicate n 0)) (fun _ => 3) (List.replicate n (0 : Int)).length = canLists s := by
  subst h
  unfold canLists
  rw [atL_zeros, List.length_replicate]
theorem listsL_congr {lo lo' : Nat → Int} {m m' : Nat → Nat} {n : Nat} (h : ∀ i, i < n → lo i = lo' i ∧ m i = m' i) : listsL lo m n = listsL lo' m' n := by
  induction n with
  | zero => rfl
  | succ n ih =>
    simp only [listsL]
    rw [ih fun i hi => h i (by omega), (h n (by omega)).1, (h n (by omega)).2]
def loN (s : St) (j : Nat) : List Int := (List.range j).map fun i => (ntAt s i).a
def hiN (s : St) (j : Nat) : List Int := (List.range j).map fun i => (ntAt s i).b
theorem loN_len (s : St) (j : Nat) : (loN s j).length = j := by simp [loN]
theorem hiN_len (s : St) (j : Nat) : (hiN s j).length = j := by simp [hiN]
theorem loN_succ (s : St) (j : Nat) : loN s (j + 1) = loN s j ++ [(ntAt s j).a] := by simp [loN, List.range_succ]
theorem hiN_succ (s : St) (j : Nat) : hiN s (j + 1) = hiN s j ++ [(ntAt s j).b] := by simp [hiN, List.range_succ]
theorem loN_at {s : St} {n i : Nat} (h : i < n) : atL (loN s n) i = (ntAt s i).a := by simp [loN, atL, h]
theorem hiN_at {s : St} {n i : Nat} (h : i < n) : atL (hiN s n) i = (ntAt s i).b := by simp [hiN, atL, h]
theorem wickLists_eq (s : St) : listsL (atL (loN s s.ns.length)) (fun i => ((ntAt s i).b + 1 - (ntAt s i).a).toNat) (loN s s.ns.length).length = wickLists s := by
  unfold wickLists
  rw [loN_len]
  exact listsL_congr fun i hi => ⟨loN_at hi, rfl⟩
theorem prove_dark2 {s : St} {c k : List Int} (h : planL s c k = 0) : provePlanB s c k = decide ((darkL s (atL c) (atL k)).length = 0) := by
  unfold provePlanB
  rw [decide_eq_true h, Bool.true_and, Bool.eq_iff_iff, decide_eq_true_eq, List.length_eq_zero_iff]
  exact dark_nil.symm
theorem bestR_step {p : List Int → Bool} {v : List Int → Int} {ls : List (List Int)} {i : Nat} {x B : List Int} {b1 b2 : Bool} (hx : ls.getD i [] = x) (hB : bestR p v ls i = B) (h1 : (B.isEmpty || decide (v x < v B)) = b1) (h2 : p x = b2) : bestR p v ls (i + 1) = if b1 && b2 then x else B := by
  simp only [bestR, hx, hB, h1, h2]
/-- No night can become dark, or some can. -/
theorem rdark_by (s : St) (A : Option Addr) (cp : Nat) (Ac Ak : Option Addr) (cc ck : Nat) (c k : List Int) (b : Bool) (w : World) (hb : provePlanB s c k = b) (hok : planL s c k = 0) (hA : NtsAt w A s.ns) (hc : IntsAt w (.slice Ac c.length cc) c) (hk : IntsAt w (.slice Ak k.length ck) k) :
    Calls Try.prog 52 #[.agg #[.int .i64 s.cap, .int .i64 s.can, .int .i64 s.sl, .int .i64 s.sh, .slice A s.ns.length cp], .agg #[.slice Ac c.length cc, .slice Ak k.length ck]] w fun e w' => ∃ A1 n c1, e = .returned (.slice A1 n c1) ∧ ((n : Int) == 0) = b ∧ decide ((n : Int) = 0) = b ∧ decide (n = 0) = b ∧ Below w.heap.size w w' :=
  (rdark_any s A cp Ac Ak cc ck c k w hok hA hc hk).mono fun e w' ⟨A1, c1, he, _, h2⟩ => by
    rw [prove_dark2 hok] at hb
    refine ⟨A1, _, c1, he, ?_, ?_, hb, h2⟩
    · rw [← hb, Bool.eq_iff_iff]; simp
    · rw [← hb, Bool.eq_iff_iff]; simp
end Go.Proofs.Ytefhdcecbmgljaa
namespace Go.Proofs.Ytefhdcecbmgljaa
open Go.RowKit Go.WalkArith

def RMk (n : Nat) (w1 : World) (lo hi : Value) (W : World) : Prop := ∃ a b, lo = .slice (some ⟨a, 0, none⟩) n n ∧ hi = .slice (some ⟨b, 0, none⟩) n n ∧ TS w1 W lo hi (List.replicate n 0) (List.replicate n 0)
def RD0 (n : Nat) (w1 : World) (lo hi i : Value) (W : World) : Prop := ∃ j : Nat, j ≤ n ∧ i = .int .i64 j ∧ TS w1 W lo hi (List.replicate n 0) (hiL n j)
def RT0 (s : St) (w1 : World) (lo hi i : Value) (W : World) : Prop := ∃ j : Nat, j ≤ s.ns.length ∧ i = .int .i64 j ∧ TS w1 W lo hi (loN s j) (hiN s j)
def RT1 (s : St) (w1 : World) (j : Nat) (lo hi : Value) (W : World) : Prop := TS w1 W lo hi (loN s (j + 1)) (hiN s (j + 1))
def RD2 (p : List Int → Bool) (v : List Int → Int) (ls : List (List Int)) (w3 : World) (best i : Value) (wr : World) : Prop := ∃ j : Nat, j ≤ ls.length ∧ i = .int .i64 j ∧ ∃ Ab cb, best = .slice Ab (bestR p v ls j).length cb ∧ IntsAt wr (.slice Ab (bestR p v ls j).length cb) (bestR p v ls j) ∧ Below w3.heap.size w3 wr
theorem run_mk (n : Nat) (hn : n ≤ 1000) : ∀ W : World, (Instr.makeSlice 27 (.int .i64 (n : Int)) (.int .i64 (n : Int))).run Try.prog W = .ok (.slice (some ⟨W.heap.size, 0, none⟩) n n) (W.alloc (.cells (madeCells #[.int .i64 0] n) 3)) := by
  intro W
  obtain ⟨i0, hi0, hz0, hz1, hz2⟩ := info_parts Try.info3
  have h := run_make (P := Try.prog) W 27 3 i0 (.int .i64 0) Try.underlying27 hi0 hz0 .i64 .i64 n n (by omega) (Int.le_refl _) (by rw [hz2]; omega) (by omega)
  rw [hz1] at h
  simpa [Value.cells] using h

set_option maxRecDepth 100000 in
set_option maxHeartbeats 8000000 in
theorem rtrim_any (s : St) (A : Option Addr) (cp : Nat) (Ak : Option Addr) (ck : Nat) (k : List Int) (w : World) (hok : StOk s) (hwk : cansB s k = true) (hA : NtsAt w A s.ns) (hk : IntsAt w (.slice Ak k.length ck) k) :
    Calls Try.prog 40 #[.agg #[.int .i64 s.cap, .int .i64 s.can, .int .i64 s.sl, .int .i64 s.sh, .slice A s.ns.length cp], .slice Ak k.length ck] w fun e w' => ∃ A1 c1, e = .returned (.tuple #[.slice A1 (rTrim s k).length c1, .bool (decide (0 < (rTrim s k).length))]) ∧ IntsAt w' (.slice A1 (rTrim s k).length c1) (rTrim s k) ∧ Below w.heap.size w w' := by
  have HA := Lib.hid hA
  have HK := Lib.hid hk
  have HOK := Lib.hid hok
  have HWK := Lib.hid hwk
  have h6 := hok.len
  have hpos := hok.pos
  have HB0 := Lib.hid (show Below w.heap.size w (w.alloc (.cells #[.int .i64 s.cap, .int .i64 s.can, .int .i64 s.sl, .int .i64 s.sh, .slice A s.ns.length cp] 26)) from (Below.refl _ _).alloc (Nat.le_refl _) _)
  have HN0 := Lib.hid (Go.heap_alloc_new w (.cells #[.int .i64 s.cap, .int .i64 s.can, .int .i64 s.sl, .int .i64 s.sh, .slice A s.ns.length cp] 26))
  clear hA hk hok hwk
  go_enter Try.func40, Try.ntmps40
  go_wp2_with fail
  generalize w.alloc (.cells #[.int .i64 s.cap, .int .i64 s.can, .int .i64 s.sl, .int .i64 s.sh, .slice A s.ns.length cp] 26) = w1 at HB0 HN0 ⊢
  obtain ⟨Bs, hBs⟩ : ∃ Bs, w.heap.size = Bs := ⟨_, rfl⟩
  rw [hBs] at HN0 ⊢
  have hBl := (Array.getElem?_eq_some_iff.1 HN0.out).1
  obtain ⟨c0, c1, c2, c3, c4⟩ := cells5 HN0.out
  have HT0 := Lib.hid (TS.start w1)
  clear hBs c0 c1 c2 c3
  go_loopw [6, 7, 8] (RT0 s w1) (fun _ _ i _ => s.ns.length - (intOf i).toNat)
  case atStart => exact ⟨0, by omega, rfl, HT0.out⟩
  case round =>
    clear HT0
    obtain ⟨lo, rfl⟩ : ∃ x, x = u6 := ⟨_, rfl⟩
    obtain ⟨hi, rfl⟩ : ∃ x, x = u7 := ⟨_, rfl⟩
    obtain ⟨j, hj, rfl, hT⟩ := hrel
    have d4 := cell_later hT.be c4
    by_cases hlt : j < s.ns.length
    · have hlt' : decide ((j : Int) < (s.ns.length : Int)) = true := by simpa using hlt
      obtain ⟨b, o, rfl, a0, a1, a2, a3, a4⟩ := (HA.out.keep HB0.out (Nat.le_refl _)).at hlt
      rw [← ntAt_at hlt] at a1 a2
      have HL1 := Lib.hid (loN_succ s j)
      have HL2 := Lib.hid (hiN_succ s j)
      have HLL := Lib.hid (loN_len s j)
      have HLH := Lib.hid (hiN_len s j)
      obtain ⟨y1, hy1⟩ : ∃ y, (ntAt s j).a = y := ⟨_, rfl⟩
      obtain ⟨y2, hy2⟩ : ∃ y, (ntAt s j).b = y := ⟨_, rfl⟩
      rw [hy1] at a1 HL1
      rw [hy2] at a2 HL2
      have i1 : (0 : Int) ≤ (j : Int) := by omega
      have i2 : (j : Int) < (s.ns.length : Int) := by omega
      have HT := Lib.hid hT.drew
      have HS := Lib.hid (show ∀ X, Below w1.heap.size w1 X → X.cell? ⟨Bs, 4, none⟩ = some (.slice (some ⟨b, o, none⟩) s.ns.length cp) ∧ X.cell? ⟨b, o + j * 5 + 1, none⟩ = some (.int .i64 y1) ∧ X.cell? ⟨b, o + j * 5 + 2, none⟩ = some (.int .i64 y2) from fun X h => ⟨cell_later h c4, cell_later h a1, cell_later h a2⟩)
      clear hT a0 a1 a2 a3 a4 hy1 hy2
      go_wp2_with fail
      clear d4
      obtain ⟨v0, hv0⟩ : ∃ v, wr.drew = v := ⟨_, rfl⟩
      have HT_v0 := Lib.hid (show TS w1 v0 lo hi (loN s j) (hiN s j) from hv0 ▸ HT.out)
      have HX_v0 := Lib.hid (show Below w1.heap.size w1 v0 from HT_v0.out.be)
      refine wp_region_held_drew (S := fun X => X.cell? ⟨Bs, 4, none⟩ = some (.slice (some ⟨b, o, none⟩) s.ns.length cp) ∧ X.cell? ⟨b, o + j * 5 + 1, none⟩ = some (.int .i64 y1) ∧ X.cell? ⟨b, o + j * 5 + 2, none⟩ = some (.int .i64 y2)) (by kernel_rfl) ((HS.out _ HT.out.be)) (fun hS0 => ?_)
      rw [hv0] at hS0 ⊢
      clear hv0
      refine tkH 0 ⟨some 19, .move (.tmp 6), 27, "ref.go:274", #[], none⟩ (v := ?_) hS0 ?_ ?_
      rotate_left
      · intro X ⟨x0, x1, x2⟩; go_simp; try with_reducible rfl
      simp only [Act.put, List.setIfInBounds_toArray, List.set_cons_zero, List.set_cons_succ, Array.toArray_toList]
      refine tkH 1 ⟨some 20, .fieldAddr 26 (.tmp 2) 3, 0, "ref.go:274", #[], none⟩ (v := ?_) hS0 ?_ ?_
      rotate_left
      · intro X ⟨x0, x1, x2⟩; go_simp; try with_reducible rfl
      simp only [Act.put, List.setIfInBounds_toArray, List.set_cons_zero, List.set_cons_succ, Array.toArray_toList]
      refine tkH 2 ⟨some 21, .load 24 (.tmp 20), 24, "ref.go:274", #[⟨1, .data⟩], none⟩ (v := ?_) hS0 ?_ ?_
      rotate_left
      · intro X ⟨x0, x1, x2⟩; go_simp; try with_reducible rfl
      simp only [Act.put, List.setIfInBounds_toArray, List.set_cons_zero, List.set_cons_succ, Array.toArray_toList]
      refine tkH 3 ⟨some 22, .move (.tmp 8), 3, "ref.go:274", #[], none⟩ (v := ?_) hS0 ?_ ?_
      rotate_left
      · intro X ⟨x0, x1, x2⟩; go_simp; try with_reducible rfl
      simp only [Act.put, List.setIfInBounds_toArray, List.set_cons_zero, List.set_cons_succ, Array.toArray_toList]
      refine tkH 4 ⟨some 23, .indexAddr 24 (.tmp 21) (.tmp 22), 0, "ref.go:274", #[⟨2, .data⟩, ⟨3, .data⟩], none⟩ (v := ?_) hS0 ?_ ?_
      rotate_left
      · intro X ⟨x0, x1, x2⟩; go_simp; try with_reducible rfl
      simp only [Act.put, List.setIfInBounds_toArray, List.set_cons_zero, List.set_cons_succ, Array.toArray_toList]
      refine tkH 5 ⟨some 24, .fieldAddr 80 (.tmp 23) 1, 0, "ref.go:274", #[⟨4, .data⟩], none⟩ (v := ?_) hS0 ?_ ?_
      rotate_left
      · intro X ⟨x0, x1, x2⟩; go_simp; try with_reducible rfl
      simp only [Act.put, List.setIfInBounds_toArray, List.set_cons_zero, List.set_cons_succ, Array.toArray_toList]
      refine tkH 6 ⟨some 25, .load 3 (.tmp 24), 3, "ref.go:274", #[⟨5, .data⟩], none⟩ (v := ?_) hS0 ?_ ?_
      rotate_left
      · intro X ⟨x0, x1, x2⟩; go_simp; try with_reducible rfl
      simp only [Act.put, List.setIfInBounds_toArray, List.set_cons_zero, List.set_cons_succ, Array.toArray_toList]
      refine tkH 9 ⟨some 28, .move (.tmp 7), 27, "ref.go:274", #[], none⟩ (v := ?_) hS0 ?_ ?_
      rotate_left
      · intro X ⟨x0, x1, x2⟩; go_simp; try with_reducible rfl
      simp only [Act.put, List.setIfInBounds_toArray, List.set_cons_zero, List.set_cons_succ, Array.toArray_toList]
      refine tkH 10 ⟨some 29, .fieldAddr 26 (.tmp 2) 3, 0, "ref.go:274", #[], none⟩ (v := ?_) hS0 ?_ ?_
      rotate_left
      · intro X ⟨x0, x1, x2⟩; go_simp; try with_reducible rfl
      simp only [Act.put, List.setIfInBounds_toArray, List.set_cons_zero, List.set_cons_succ, Array.toArray_toList]
      refine tkH 11 ⟨some 30, .load 24 (.tmp 29), 24, "ref.go:274", #[⟨10, .data⟩], none⟩ (v := ?_) hS0 ?_ ?_
      rotate_left
      · intro X ⟨x0, x1, x2⟩; go_simp; try with_reducible rfl
      simp only [Act.put, List.setIfInBounds_toArray, List.set_cons_zero, List.set_cons_succ, Array.toArray_toList]
      refine tkH 12 ⟨some 31, .move (.tmp 8), 3, "ref.go:274", #[], none⟩ (v := ?_) hS0 ?_ ?_
      rotate_left
      · intro X ⟨x0, x1, x2⟩; go_simp; try with_reducible rfl
      simp only [Act.put, List.setIfInBounds_toArray, List.set_cons_zero, List.set_cons_succ, Array.toArray_toList]
      refine tkH 13 ⟨some 32, .indexAddr 24 (.tmp 30) (.tmp 31), 0, "ref.go:274", #[⟨11, .data⟩, ⟨12, .data⟩], none⟩ (v := ?_) hS0 ?_ ?_
      rotate_left
      · intro X ⟨x0, x1, x2⟩; go_simp; try with_reducible rfl
      simp only [Act.put, List.setIfInBounds_toArray, List.set_cons_zero, List.set_cons_succ, Array.toArray_toList]
      refine tkH 14 ⟨some 33, .fieldAddr 80 (.tmp 32) 2, 0, "ref.go:274", #[⟨13, .data⟩], none⟩ (v := ?_) hS0 ?_ ?_
      rotate_left
      · intro X ⟨x0, x1, x2⟩; go_simp; try with_reducible rfl
      simp only [Act.put, List.setIfInBounds_toArray, List.set_cons_zero, List.set_cons_succ, Array.toArray_toList]
      refine tkH 15 ⟨some 34, .load 3 (.tmp 33), 3, "ref.go:274", #[⟨14, .data⟩], none⟩ (v := ?_) hS0 ?_ ?_
      rotate_left
      · intro X ⟨x0, x1, x2⟩; go_simp; try with_reducible rfl
      simp only [Act.put, List.setIfInBounds_toArray, List.set_cons_zero, List.set_cons_succ, Array.toArray_toList]
      refine wpAnyH_ready (rs := [7, 16]) (by kernel_rfl) (by simp) (AllReadyH.cons (o := ⟨some 26, .buildSlice 27 1 #[(0, .tmp 25)], 27, "ref.go:274", #[⟨6, .data⟩], none⟩) rfl (fun K hK => ?_) (AllReadyH.cons (o := ⟨some 35, .buildSlice 27 1 #[(0, .tmp 34)], 27, "ref.go:274", #[⟨15, .data⟩], none⟩) rfl (fun K hK => ?_) AllReadyH.nil))
      · skip
        go_simp
        have hT := HT_v0.out.alloc (.cells #[.int .i64 y1] 3)
        have hE := HT_v0.out.new y1
        obtain ⟨B7, hB7⟩ : ∃ B, v0.heap.size = B := ⟨_, rfl⟩
        rw [hB7] at hE ⊢
        clear hB7
        generalize v0.alloc (.cells #[.int .i64 y1] 3) = v1 at hT hE  ⊢
        have HT_v1 := Lib.hid hT
        have E7_v1 := Lib.hid hE
        clear hT hE 
        refine hK.out _ _ ((HS.out _ HT_v1.out.be)) (fun hS1 => ?_)
        clear hS0 hK K
        refine wpAnyH_ready (rs := [8, 16]) (by kernel_rfl) (by simp) (AllReadyH.cons (o := ⟨some 27, .call ⟨.builtin .append, #[.tmp 19, .tmp 26], #[27, 27]⟩, 27, "ref.go:274", #[⟨0, .data⟩, ⟨7, .data⟩], none⟩) rfl (fun K hK => ?_) (AllReadyH.cons (o := ⟨some 35, .buildSlice 27 1 #[(0, .tmp 34)], 27, "ref.go:274", #[⟨15, .data⟩], none⟩) rfl (fun K hK => ?_) AllReadyH.nil))
        · skip
          refine step_app_int (by rfl) _ _ (by rfl) w1.heap.size _ (loN s j) y1 B7 (by rfl) HT_v1.out.rlo (by rfl) E7_v1.out.cell (by have := HLL.out; have := HLH.out; omega) HT_v1.out.be.size ?_
          intro g8 q8 v2 hown hg ha
          have HT_v2 := Lib.hid (HT_v1.out.grow hown hg ha)
          clear hown hg ha
          refine hK.out _ _ ((HS.out _ HT_v2.out.be)) (fun hS2 => ?_)
          clear hS1 hK K
          simp only [Act.put, List.setIfInBounds_toArray, List.set_cons_zero, List.set_cons_succ, Array.toArray_toList]
          refine wpAnyH_ready (rs := [16]) (by kernel_rfl) (by simp) (AllReadyH.cons (o := ⟨some 35, .buildSlice 27 1 #[(0, .tmp 34)], 27, "ref.go:274", #[⟨15, .data⟩], none⟩) rfl (fun K hK => ?_) AllReadyH.nil)
          go_simp
          have hT := HT_v2.out.alloc (.cells #[.int .i64 y2] 3)
          have hE := HT_v2.out.new y2
          obtain ⟨B16, hB16⟩ : ∃ B, v2.heap.size = B := ⟨_, rfl⟩
          rw [hB16] at hE ⊢
          clear hB16
          generalize v2.alloc (.cells #[.int .i64 y2] 3) = v3 at hT hE  ⊢
          have HT_v3 := Lib.hid hT
          have E16_v3 := Lib.hid hE
          clear hT hE 
          refine hK.out _ _ ((HS.out _ HT_v3.out.be)) (fun hS3 => ?_)
          clear hS2 hK K
          refine wpAnyH_ready (rs := [17]) (by kernel_rfl) (by simp) (AllReadyH.cons (o := ⟨some 36, .call ⟨.builtin .append, #[.tmp 28, .tmp 35], #[27, 27]⟩, 27, "ref.go:274", #[⟨9, .data⟩, ⟨16, .data⟩, ⟨8, .chain⟩], none⟩) rfl (fun K hK => ?_) AllReadyH.nil)
          refine step_app_int (by rfl) _ _ (by rfl) w1.heap.size _ (hiN s j) y2 B16 (by rfl) HT_v3.out.rhi (by rfl) E16_v3.out.cell (by have := HLL.out; have := HLH.out; omega) HT_v3.out.be.size ?_
          intro g17 q17 v4 hown hg ha
          have HT_v4 := Lib.hid ((HT_v3.out.swap.grow hown hg ha).swap)
          clear hown hg ha
          refine hK.out _ _ ((HS.out _ HT_v4.out.be)) (fun hS4 => ?_)
          clear hS3 hK K
          simp only [Act.put, List.setIfInBounds_toArray, List.set_cons_zero, List.set_cons_succ, Array.toArray_toList]
          refine tkH 18 ⟨some 6, .assign (.tmp 27), 27, "ref.go:274", #[⟨8, .data⟩, ⟨17, .chain⟩, ⟨0, .phase⟩, ⟨1, .phase⟩, ⟨2, .phase⟩, ⟨3, .phase⟩, ⟨4, .phase⟩, ⟨5, .phase⟩, ⟨6, .phase⟩, ⟨7, .phase⟩, ⟨8, .phase⟩, ⟨9, .textOnly .lateStores⟩, ⟨10, .textOnly .lateStores⟩, ⟨11, .textOnly .lateStores⟩, ⟨12, .textOnly .lateStores⟩, ⟨13, .textOnly .lateStores⟩, ⟨14, .textOnly .lateStores⟩, ⟨15, .textOnly .lateStores⟩, ⟨16, .textOnly .lateStores⟩, ⟨17, .textOnly .lateStoresUnsure⟩], none⟩ (v := ?_) hS4 ?_ ?_
          rotate_left
          · intro X ⟨x0, x1, x2⟩; go_simp; try with_reducible rfl
          simp only [Act.put, List.setIfInBounds_toArray, List.set_cons_zero, List.set_cons_succ, Array.toArray_toList]
          refine tkH 19 ⟨some 7, .assign (.tmp 36), 27, "ref.go:274", #[⟨17, .data⟩, ⟨18, .chain⟩, ⟨0, .phase⟩, ⟨1, .phase⟩, ⟨2, .phase⟩, ⟨3, .phase⟩, ⟨4, .phase⟩, ⟨5, .phase⟩, ⟨6, .phase⟩, ⟨7, .phase⟩, ⟨8, .phase⟩, ⟨9, .phase⟩, ⟨10, .phase⟩, ⟨11, .phase⟩, ⟨12, .phase⟩, ⟨13, .phase⟩, ⟨14, .phase⟩, ⟨15, .phase⟩, ⟨16, .phase⟩, ⟨17, .phase⟩, ⟨18, .phase⟩], none⟩ (v := ?_) hS4 ?_ ?_
          rotate_left
          · intro X ⟨x0, x1, x2⟩; go_simp; try with_reducible rfl
          simp only [Act.put, List.setIfInBounds_toArray, List.set_cons_zero, List.set_cons_succ, Array.toArray_toList]
          refine wpAnyH_done (by kernel_rfl) ?_ _
          clear hS4
          go_wp2_with fail
          go_roundw
          case rel => exact ⟨j + 1, by omega, by go_num, (by rw [HL1.out, HL2.out]; exact HT_v4.out)⟩
          case measure => simp [intOf]; omega
        · skip
          go_simp
          have hT := HT_v1.out.alloc (.cells #[.int .i64 y2] 3)
          have hE := HT_v1.out.new y2
          have hE2 := E7_v1.out.alloc (.cells #[.int .i64 y2] 3)
          obtain ⟨B16, hB16⟩ : ∃ B, v1.heap.size = B := ⟨_, rfl⟩
          rw [hB16] at hE ⊢
          clear hB16
          generalize v1.alloc (.cells #[.int .i64 y2] 3) = v5 at hT hE hE2 ⊢
          have HT_v5 := Lib.hid hT
          have E16_v5 := Lib.hid hE
          have E7_v5 := Lib.hid hE2
          clear hT hE hE2
          refine hK.out _ _ ((HS.out _ HT_v5.out.be)) (fun hS2 => ?_)
          clear hS1 hK K
          refine wpAnyH_ready (rs := [8]) (by kernel_rfl) (by simp) (AllReadyH.cons (o := ⟨some 27, .call ⟨.builtin .append, #[.tmp 19, .tmp 26], #[27, 27]⟩, 27, "ref.go:274", #[⟨0, .data⟩, ⟨7, .data⟩], none⟩) rfl (fun K hK => ?_) AllReadyH.nil)
          refine step_app_int (by rfl) _ _ (by rfl) w1.heap.size _ (loN s j) y1 B7 (by rfl) HT_v5.out.rlo (by rfl) E7_v5.out.cell (by have := HLL.out; have := HLH.out; omega) HT_v5.out.be.size ?_
          intro g8 q8 v6 hown hg ha
          have HT_v6 := Lib.hid (HT_v5.out.grow hown hg ha)
          have E16_v6 := Lib.hid (E16_v5.out.grow (n := (loN s j).length + 1) (cap := q8) hg ha)
          clear hown hg ha
          refine hK.out _ _ ((HS.out _ HT_v6.out.be)) (fun hS3 => ?_)
          clear hS2 hK K
          simp only [Act.put, List.setIfInBounds_toArray, List.set_cons_zero, List.set_cons_succ, Array.toArray_toList]
          refine wpAnyH_ready (rs := [17]) (by kernel_rfl) (by simp) (AllReadyH.cons (o := ⟨some 36, .call ⟨.builtin .append, #[.tmp 28, .tmp 35], #[27, 27]⟩, 27, "ref.go:274", #[⟨9, .data⟩, ⟨16, .data⟩, ⟨8, .chain⟩], none⟩) rfl (fun K hK => ?_) AllReadyH.nil)
          refine step_app_int (by rfl) _ _ (by rfl) w1.heap.size _ (hiN s j) y2 B16 (by rfl) HT_v6.out.rhi (by rfl) E16_v6.out.cell (by have := HLL.out; have := HLH.out; omega) HT_v6.out.be.size ?_
          intro g17 q17 v7 hown hg ha
          have HT_v7 := Lib.hid ((HT_v6.out.swap.grow hown hg ha).swap)
          clear hown hg ha
          refine hK.out _ _ ((HS.out _ HT_v7.out.be)) (fun hS4 => ?_)
          clear hS3 hK K
          simp only [Act.put, List.setIfInBounds_toArray, List.set_cons_zero, List.set_cons_succ, Array.toArray_toList]
          refine tkH 18 ⟨some 6, .assign (.tmp 27), 27, "ref.go:274", #[⟨8, .data⟩, ⟨17, .chain⟩, ⟨0, .phase⟩, ⟨1, .phase⟩, ⟨2, .phase⟩, ⟨3, .phase⟩, ⟨4, .phase⟩, ⟨5, .phase⟩, ⟨6, .phase⟩, ⟨7, .phase⟩, ⟨8, .phase⟩, ⟨9, .textOnly .lateStores⟩, ⟨10, .textOnly .lateStores⟩, ⟨11, .textOnly .lateStores⟩, ⟨12, .textOnly .lateStores⟩, ⟨13, .textOnly .lateStores⟩, ⟨14, .textOnly .lateStores⟩, ⟨15, .textOnly .lateStores⟩, ⟨16, .textOnly .lateStores⟩, ⟨17, .textOnly .lateStoresUnsure⟩], none⟩ (v := ?_) hS4 ?_ ?_
          rotate_left
          · intro X ⟨x0, x1, x2⟩; go_simp; try with_reducible rfl
          simp only [Act.put, List.setIfInBounds_toArray, List.set_cons_zero, List.set_cons_succ, Array.toArray_toList]
          refine tkH 19 ⟨some 7, .assign (.tmp 36), 27, "ref.go:274", #[⟨17, .data⟩, ⟨18, .chain⟩, ⟨0, .phase⟩, ⟨1, .phase⟩, ⟨2, .phase⟩, ⟨3, .phase⟩, ⟨4, .phase⟩, ⟨5, .phase⟩, ⟨6, .phase⟩, ⟨7, .phase⟩, ⟨8, .phase⟩, ⟨9, .phase⟩, ⟨10, .phase⟩, ⟨11, .phase⟩, ⟨12, .phase⟩, ⟨13, .phase⟩, ⟨14, .phase⟩, ⟨15, .phase⟩, ⟨16, .phase⟩, ⟨17, .phase⟩, ⟨18, .phase⟩], none⟩ (v := ?_) hS4 ?_ ?_
          rotate_left
          · intro X ⟨x0, x1, x2⟩; go_simp; try with_reducible rfl
          simp only [Act.put, List.setIfInBounds_toArray, List.set_cons_zero, List.set_cons_succ, Array.toArray_toList]
          refine wpAnyH_done (by kernel_rfl) ?_ _
          clear hS4
          go_wp2_with fail
          go_roundw
          case rel => exact ⟨j + 1, by omega, by go_num, (by rw [HL1.out, HL2.out]; exact HT_v7.out)⟩
          case measure => simp [intOf]; omega
      · skip
        go_simp
        have hT := HT_v0.out.alloc (.cells #[.int .i64 y2] 3)
        have hE := HT_v0.out.new y2
        obtain ⟨B16, hB16⟩ : ∃ B, v0.heap.size = B := ⟨_, rfl⟩
        rw [hB16] at hE ⊢
        clear hB16
        generalize v0.alloc (.cells #[.int .i64 y2] 3) = v8 at hT hE  ⊢
        have HT_v8 := Lib.hid hT
        have E16_v8 := Lib.hid hE
        clear hT hE 
        refine hK.out _ _ ((HS.out _ HT_v8.out.be)) (fun hS1 => ?_)
        clear hS0 hK K
        refine wpAnyH_ready (rs := [7]) (by kernel_rfl) (by simp) (AllReadyH.cons (o := ⟨some 26, .buildSlice 27 1 #[(0, .tmp 25)], 27, "ref.go:274", #[⟨6, .data⟩], none⟩) rfl (fun K hK => ?_) AllReadyH.nil)
        go_simp
        have hT := HT_v8.out.alloc (.cells #[.int .i64 y1] 3)
        have hE := HT_v8.out.new y1
        have hE2 := E16_v8.out.alloc (.cells #[.int .i64 y1] 3)
        obtain ⟨B7, hB7⟩ : ∃ B, v8.heap.size = B := ⟨_, rfl⟩
        rw [hB7] at hE ⊢
        clear hB7
        generalize v8.alloc (.cells #[.int .i64 y1] 3) = v9 at hT hE hE2 ⊢
        have HT_v9 := Lib.hid hT
        have E7_v9 := Lib.hid hE
        have E16_v9 := Lib.hid hE2
        clear hT hE hE2
        refine hK.out _ _ ((HS.out _ HT_v9.out.be)) (fun hS2 => ?_)
        clear hS1 hK K
        refine wpAnyH_ready (rs := [8]) (by kernel_rfl) (by simp) (AllReadyH.cons (o := ⟨some 27, .call ⟨.builtin .append, #[.tmp 19, .tmp 26], #[27, 27]⟩, 27, "ref.go:274", #[⟨0, .data⟩, ⟨7, .data⟩], none⟩) rfl (fun K hK => ?_) AllReadyH.nil)
        refine step_app_int (by rfl) _ _ (by rfl) w1.heap.size _ (loN s j) y1 B7 (by rfl) HT_v9.out.rlo (by rfl) E7_v9.out.cell (by have := HLL.out; have := HLH.out; omega) HT_v9.out.be.size ?_
        intro g8 q8 v10 hown hg ha
        have HT_v10 := Lib.hid (HT_v9.out.grow hown hg ha)
        have E16_v10 := Lib.hid (E16_v9.out.grow (n := (loN s j).length + 1) (cap := q8) hg ha)
        clear hown hg ha
        refine hK.out _ _ ((HS.out _ HT_v10.out.be)) (fun hS3 => ?_)
        clear hS2 hK K
        simp only [Act.put, List.setIfInBounds_toArray, List.set_cons_zero, List.set_cons_succ, Array.toArray_toList]
        refine wpAnyH_ready (rs := [17]) (by kernel_rfl) (by simp) (AllReadyH.cons (o := ⟨some 36, .call ⟨.builtin .append, #[.tmp 28, .tmp 35], #[27, 27]⟩, 27, "ref.go:274", #[⟨9, .data⟩, ⟨16, .data⟩, ⟨8, .chain⟩], none⟩) rfl (fun K hK => ?_) AllReadyH.nil)
        refine step_app_int (by rfl) _ _ (by rfl) w1.heap.size _ (hiN s j) y2 B16 (by rfl) HT_v10.out.rhi (by rfl) E16_v10.out.cell (by have := HLL.out; have := HLH.out; omega) HT_v10.out.be.size ?_
        intro g17 q17 v11 hown hg ha
        have HT_v11 := Lib.hid ((HT_v10.out.swap.grow hown hg ha).swap)
        clear hown hg ha
        refine hK.out _ _ ((HS.out _ HT_v11.out.be)) (fun hS4 => ?_)
        clear hS3 hK K
        simp only [Act.put, List.setIfInBounds_toArray, List.set_cons_zero, List.set_cons_succ, Array.toArray_toList]
        refine tkH 18 ⟨some 6, .assign (.tmp 27), 27, "ref.go:274", #[⟨8, .data⟩, ⟨17, .chain⟩, ⟨0, .phase⟩, ⟨1, .phase⟩, ⟨2, .phase⟩, ⟨3, .phase⟩, ⟨4, .phase⟩, ⟨5, .phase⟩, ⟨6, .phase⟩, ⟨7, .phase⟩, ⟨8, .phase⟩, ⟨9, .textOnly .lateStores⟩, ⟨10, .textOnly .lateStores⟩, ⟨11, .textOnly .lateStores⟩, ⟨12, .textOnly .lateStores⟩, ⟨13, .textOnly .lateStores⟩, ⟨14, .textOnly .lateStores⟩, ⟨15, .textOnly .lateStores⟩, ⟨16, .textOnly .lateStores⟩, ⟨17, .textOnly .lateStoresUnsure⟩], none⟩ (v := ?_) hS4 ?_ ?_
        rotate_left
        · intro X ⟨x0, x1, x2⟩; go_simp; try with_reducible rfl
        simp only [Act.put, List.setIfInBounds_toArray, List.set_cons_zero, List.set_cons_succ, Array.toArray_toList]
        refine tkH 19 ⟨some 7, .assign (.tmp 36), 27, "ref.go:274", #[⟨17, .data⟩, ⟨18, .chain⟩, ⟨0, .phase⟩, ⟨1, .phase⟩, ⟨2, .phase⟩, ⟨3, .phase⟩, ⟨4, .phase⟩, ⟨5, .phase⟩, ⟨6, .phase⟩, ⟨7, .phase⟩, ⟨8, .phase⟩, ⟨9, .phase⟩, ⟨10, .phase⟩, ⟨11, .phase⟩, ⟨12, .phase⟩, ⟨13, .phase⟩, ⟨14, .phase⟩, ⟨15, .phase⟩, ⟨16, .phase⟩, ⟨17, .phase⟩, ⟨18, .phase⟩], none⟩ (v := ?_) hS4 ?_ ?_
        rotate_left
        · intro X ⟨x0, x1, x2⟩; go_simp; try with_reducible rfl
        simp only [Act.put, List.setIfInBounds_toArray, List.set_cons_zero, List.set_cons_succ, Array.toArray_toList]
        refine wpAnyH_done (by kernel_rfl) ?_ _
        clear hS4
        go_wp2_with fail
        go_roundw
        case rel => exact ⟨j + 1, by omega, by go_num, (by rw [HL1.out, HL2.out]; exact HT_v11.out)⟩
        case measure => simp [intOf]; omega
    · have hlt' : decide ((j : Int) < (s.ns.length : Int)) = false := by simpa using hlt
      obtain rfl : j = s.ns.length := by omega
      have hcall := lists_gen lo hi (loN s s.ns.length) (hiN s s.ns.length) (fun i => ((ntAt s i).b + 1 - (ntAt s i).a).toNat) wr (IntsAt.of_own hT.rlo) (IntsAt.of_own hT.rhi) (by rw [loN_len, hiN_len]) (by rw [loN_len]; omega) (fun i hi => by
        rw [loN_len] at hi
        rw [loN_at hi, hiN_at hi]
        have := HOK.out.nt i hi
        omega)
      rw [wickLists_eq] at hcall
      have HCA := Lib.hid hcall
      have HBE := Lib.hid (HB0.out.trans (hT.be.mono HB0.out.size))
      have HN1 := Lib.hid ((hT.be.block Bs hBl).trans HN0.out)
      have hBl2 : Bs < wr.heap.size := (Array.getElem?_eq_some_iff.1 HN1.out).1
      clear hcall hT HN0 HB0 hBl
      go_wp2_with fail
      with_reducible refine HCA.out.mono ?_
      rintro e w3 ⟨v, rfl, hls, hb3⟩
      obtain ⟨Al, cl, rfl⟩ := hls.slice
      have HLS := Lib.hid hls
      have HB3 := Lib.hid (HBE.out.trans (hb3.mono HBE.out.size))
      have HN3 := Lib.hid ((hb3.block Bs hBl2).trans HN1.out)
      have hBl3 : Bs < w3.heap.size := (Array.getElem?_eq_some_iff.1 HN3.out).1
      have hll : (wickLists s).length ≤ 15625 := listsL_le (fun i hi => by have := HOK.out.nt i hi; omega) h6
      have HMEM := Lib.hid (fun l (h : l ∈ wickLists s) => mem_wicks.1 h)
      have HNE := Lib.hid (wicks_ne HOK.out)
      have HRD := Lib.hid (show bestR (fun l => provePlanB s k l) (fun l => -lightL s l) (wickLists s) (wickLists s).length = rTrim s k from rfl)
      generalize wickLists s = ls at hls hll HLS HMEM HNE HRD ⊢
      clear HCA hb3 HBE HN1 hBl2 hls hlt hlt' hj
      go_wp2_with fail
      go_loopw [10, 11] (RD2 (fun l => provePlanB s k l) (fun l => -lightL s l) ls w3) (fun _ i _ => ls.length - (intOf i).toNat)
      case atStart => exact ⟨0, by omega, rfl, none, 0, rfl, IntsAt.nil _, Below.refl _ _⟩
      case round =>
        obtain ⟨j, hj, rfl, Ab, cb, rfl, hbi, hbe⟩ := hrel
        have hBm := bestR_mem (p := (fun l => provePlanB s k l)) (v := (fun l => -lightL s l)) HNE.out hj
        obtain ⟨B, hB⟩ : ∃ B, bestR (fun l => provePlanB s k l) (fun l => -lightL s l) ls j = B := ⟨_, rfl⟩
        rw [hB] at hbi hBm ⊢
        by_cases hlt : j < ls.length
        · have hlt' : decide ((j : Int) < (ls.length : Int)) = true := by simpa using hlt
          obtain ⟨b', o', u, rfl, hcu, hiu, -⟩ := (HLS.out.keep hbe (Nat.le_refl _)).at hlt
          have hxm := HMEM.out _ (getD_mem hlt)
          obtain ⟨x, hx⟩ : ∃ x, ls.getD j [] = x := ⟨_, rfl⟩
          rw [hx] at hiu hxm
          obtain ⟨Ax, cx, rfl⟩ := hiu.slice
          have HST := Lib.hid (fun b1 b2 h1 h2 => bestR_step (p := (fun l => provePlanB s k l)) (v := (fun l => -lightL s l)) (b1 := b1) (b2 := b2) hx hB h1 h2)
          have hN := (hbe.block Bs hBl3).trans HN3.out
          obtain ⟨e0, e1, e2, e3, e4⟩ := cells5 hN
          have hpl : planL s k x = 0 := plan_zero' (faultS_zero.2 HOK.out) HWK.out hxm
          have HIU := Lib.hid hiu
          have HBI := Lib.hid hbi
          have HBW := Lib.hid hbe
          have HB4 := Lib.hid (HB3.out.trans (hbe.mono HB3.out.size))
          obtain ⟨hxl, hxb⟩ := wicksB_true.1 hxm
          have hxl9 : x.length ≤ 1000 := by omega
          have HDK := Lib.hid (fun W (h : Below w.heap.size w W) (h2 : Below wr.heap.size wr W) b hb => rdark_by s A cp Ak Ax ck cx k x b W hb hpl (HA.out.keep h (Nat.le_refl _)) (HK.out.keep h (Nat.le_refl _)) (HIU.out.keep h2 (Nat.le_refl _)))
          have HSX := Lib.hid (light_any s A cp (.slice Ax x.length cx) x wr.drew HOK.out (HA.out.keep HB4.out.drew (Nat.le_refl _)) HIU.out hxl (fun i hi => by have := hxb i hi; have := HOK.out.nt i hi; omega))
          have i1 : (0 : Int) ≤ (j : Int) := by omega
          have i2 : (j : Int) < (ls.length : Int) := by omega
          have q1 : IntKind.i64.wrap ((j : Int) + 1) = (j : Int) + 1 := IntWalk.i64_in _ (by omega)
          clear hbi hbe hiu hB hx hN hpl hxm hxl hxb hxl9
          rcases hBm with rfl | hBm
          · cases hp : provePlanB s k x with
            | true =>
              have HE := Lib.hid (HST.out true true rfl hp)
              simp only [Bool.true_and, Bool.and_true, Bool.and_false, Bool.true_and, if_true, Bool.false_eq_true, if_false] at HE
              have HP := Lib.hid hp
              clear hp HST HSX
              simp only [List.length_nil] at ⊢
              go_wp2_with fail
              refine wp_region_held_drew (S := fun X => X.cell? ⟨b', o' + j, none⟩ = some (.slice Ax x.length cx) ∧ X.cell? ⟨Bs, 0, none⟩ = some (.int .i64 s.cap) ∧ X.cell? ⟨Bs, 1, none⟩ = some (.int .i64 s.can) ∧ X.cell? ⟨Bs, 2, none⟩ = some (.int .i64 s.sl) ∧ X.cell? ⟨Bs, 3, none⟩ = some (.int .i64 s.sh) ∧ X.cell? ⟨Bs, 4, none⟩ = some (.slice A s.ns.length cp)) (by kernel_rfl) (⟨hcu, e0, e1, e2, e3, e4⟩) (fun hS0 => ?_)
              refine tkH 0 ⟨some 46, .move (.tmp 10), 27, "ref.go:279", #[], none⟩ (v := ?_) hS0 ?_ ?_
              rotate_left
              · intro X ⟨x0, x1, x2, x3, x4, x5⟩; go_simp; try with_reducible rfl
              simp only [Act.put, List.setIfInBounds_toArray, List.set_cons_zero, List.set_cons_succ, Array.toArray_toList]
              refine tkH 1 ⟨some 47, .call ⟨.builtin .len, #[.tmp 46], #[27]⟩, 3, "ref.go:279", #[⟨0, .data⟩], none⟩ (v := ?_) hS0 ?_ ?_
              rotate_left
              · intro X ⟨x0, x1, x2, x3, x4, x5⟩; go_simp; try with_reducible rfl
              simp only [Act.put, List.setIfInBounds_toArray, List.set_cons_zero, List.set_cons_succ, Array.toArray_toList]
              refine tkH 2 ⟨some 48, .binOp .eql 3 (.tmp 47) (.const (.int .i64 0)) 3, 4, "ref.go:279", #[⟨1, .data⟩], none⟩ (v := ?_) hS0 ?_ ?_
              rotate_left
              · intro X ⟨x0, x1, x2, x3, x4, x5⟩; go_simp; try with_reducible rfl
              simp only [Act.put, List.setIfInBounds_toArray, List.set_cons_zero, List.set_cons_succ, Array.toArray_toList]
              refine tkH 3 ⟨some 49, .move (.tmp 48), 4, "ref.go:279", #[⟨2, .data⟩], none⟩ (v := ?_) hS0 ?_ ?_
              rotate_left
              · intro X ⟨x0, x1, x2, x3, x4, x5⟩; go_simp; try with_reducible rfl
              simp only [Act.put, List.setIfInBounds_toArray, List.set_cons_zero, List.set_cons_succ, Array.toArray_toList]
              refine wpAnyH_take (i := 4) (oi := ⟨some 50, .load 26 (.tmp 2), 26, "ref.go:279", #[⟨3, .guard⟩], some (3, false)⟩) (v := undef) rfl (by kernel_rfl) (by kernel_rfl) (by kernel_rfl) (fun _ _ _ h => h) (Or.inr ⟨by rfl, rfl⟩) hS0 ?_
              simp only [Act.put, List.setIfInBounds_toArray, List.set_cons_zero, List.set_cons_succ, Array.toArray_toList]
              refine wpAnyH_take (i := 5) (oi := ⟨some 51, .move (.tmp 9), 134, "ref.go:279", #[⟨3, .guard⟩], some (3, false)⟩) (v := undef) rfl (by kernel_rfl) (by kernel_rfl) (by kernel_rfl) (fun _ _ _ h => h) (Or.inr ⟨by rfl, rfl⟩) hS0 ?_
              simp only [Act.put, List.setIfInBounds_toArray, List.set_cons_zero, List.set_cons_succ, Array.toArray_toList]
              refine wpAnyH_take (i := 6) (oi := ⟨some 52, .move (.tmp 11), 3, "ref.go:279", #[⟨3, .guard⟩], some (3, false)⟩) (v := undef) rfl (by kernel_rfl) (by kernel_rfl) (by kernel_rfl) (fun _ _ _ h => h) (Or.inr ⟨by rfl, rfl⟩) hS0 ?_
              simp only [Act.put, List.setIfInBounds_toArray, List.set_cons_zero, List.set_cons_succ, Array.toArray_toList]
              refine wpAnyH_take (i := 7) (oi := ⟨some 53, .indexAddr 134 (.tmp 51) (.tmp 52), 0, "ref.go:279", #[⟨5, .data⟩, ⟨6, .data⟩, ⟨3, .guard⟩], some (3, false)⟩) (v := undef) rfl (by kernel_rfl) (by kernel_rfl) (by kernel_rfl) (fun _ _ _ h => h) (Or.inr ⟨by rfl, rfl⟩) hS0 ?_
              simp only [Act.put, List.setIfInBounds_toArray, List.set_cons_zero, List.set_cons_succ, Array.toArray_toList]
              refine wpAnyH_take (i := 8) (oi := ⟨some 54, .load 27 (.tmp 53), 27, "ref.go:279", #[⟨7, .data⟩, ⟨3, .guard⟩], some (3, false)⟩) (v := undef) rfl (by kernel_rfl) (by kernel_rfl) (by kernel_rfl) (fun _ _ _ h => h) (Or.inr ⟨by rfl, rfl⟩) hS0 ?_
              simp only [Act.put, List.setIfInBounds_toArray, List.set_cons_zero, List.set_cons_succ, Array.toArray_toList]
              refine wpAnyH_take (i := 9) (oi := ⟨some 55, .call ⟨.value (.func 41), #[.tmp 50, .tmp 54], #[26, 27]⟩, 3, "ref.go:279", #[⟨4, .data⟩, ⟨8, .data⟩, ⟨3, .chain⟩, ⟨3, .guard⟩], some (3, false)⟩) (v := undef) rfl (by kernel_rfl) (by kernel_rfl) (by kernel_rfl) (fun _ _ _ h => h) (Or.inr ⟨by rfl, rfl⟩) hS0 ?_
              simp only [Act.put, List.setIfInBounds_toArray, List.set_cons_zero, List.set_cons_succ, Array.toArray_toList]
              refine wpAnyH_take (i := 10) (oi := ⟨some 56, .load 26 (.tmp 2), 26, "ref.go:279", #[⟨3, .guard⟩], some (3, false)⟩) (v := undef) rfl (by kernel_rfl) (by kernel_rfl) (by kernel_rfl) (fun _ _ _ h => h) (Or.inr ⟨by rfl, rfl⟩) hS0 ?_
              simp only [Act.put, List.setIfInBounds_toArray, List.set_cons_zero, List.set_cons_succ, Array.toArray_toList]
              refine wpAnyH_take (i := 11) (oi := ⟨some 57, .move (.tmp 10), 27, "ref.go:279", #[⟨3, .guard⟩], some (3, false)⟩) (v := undef) rfl (by kernel_rfl) (by kernel_rfl) (by kernel_rfl) (fun _ _ _ h => h) (Or.inr ⟨by rfl, rfl⟩) hS0 ?_
              simp only [Act.put, List.setIfInBounds_toArray, List.set_cons_zero, List.set_cons_succ, Array.toArray_toList]
              refine wpAnyH_take (i := 12) (oi := ⟨some 58, .call ⟨.value (.func 41), #[.tmp 56, .tmp 57], #[26, 27]⟩, 3, "ref.go:279", #[⟨10, .data⟩, ⟨11, .data⟩, ⟨9, .chain⟩, ⟨3, .guard⟩], some (3, false)⟩) (v := undef) rfl (by kernel_rfl) (by kernel_rfl) (by kernel_rfl) (fun _ _ _ h => h) (Or.inr ⟨by rfl, rfl⟩) hS0 ?_
              simp only [Act.put, List.setIfInBounds_toArray, List.set_cons_zero, List.set_cons_succ, Array.toArray_toList]
              refine wpAnyH_take (i := 13) (oi := ⟨some 59, .binOp .gtr 3 (.tmp 55) (.tmp 58) 3, 4, "ref.go:279", #[⟨9, .data⟩, ⟨12, .data⟩, ⟨3, .guard⟩], some (3, false)⟩) (v := undef) rfl (by kernel_rfl) (by kernel_rfl) (by kernel_rfl) (fun _ _ _ h => h) (Or.inr ⟨by rfl, rfl⟩) hS0 ?_
              simp only [Act.put, List.setIfInBounds_toArray, List.set_cons_zero, List.set_cons_succ, Array.toArray_toList]
              refine tkH 14 ⟨some 60, .pick (.tmp 49) (.const (.bool true)) (.tmp 59), 4, "ref.go:279", #[⟨3, .data⟩, ⟨13, .data⟩], none⟩ (v := ?_) hS0 ?_ ?_
              rotate_left
              · intro X ⟨x0, x1, x2, x3, x4, x5⟩; go_simp; try with_reducible rfl
              simp only [Act.put, List.setIfInBounds_toArray, List.set_cons_zero, List.set_cons_succ, Array.toArray_toList]
              refine tkH 15 ⟨some 61, .move (.tmp 60), 4, "ref.go:279", #[⟨14, .data⟩, ⟨12, .chain⟩], none⟩ (v := ?_) hS0 ?_ ?_
              rotate_left
              · intro X ⟨x0, x1, x2, x3, x4, x5⟩; go_simp; try with_reducible rfl
              simp only [Act.put, List.setIfInBounds_toArray, List.set_cons_zero, List.set_cons_succ, Array.toArray_toList]
              refine tkH 16 ⟨some 62, .load 26 (.tmp 2), 26, "ref.go:279", #[⟨15, .guard⟩], some (15, true)⟩ (v := ?_) hS0 ?_ ?_
              rotate_left
              · intro X ⟨x0, x1, x2, x3, x4, x5⟩; go_simp; try with_reducible rfl
              simp only [Act.put, List.setIfInBounds_toArray, List.set_cons_zero, List.set_cons_succ, Array.toArray_toList]
              refine tkH 17 ⟨some 63, .move (.tmp 1), 27, "ref.go:279", #[⟨15, .guard⟩], some (15, true)⟩ (v := ?_) hS0 ?_ ?_
              rotate_left
              · intro X ⟨x0, x1, x2, x3, x4, x5⟩; go_simp; try with_reducible rfl
              simp only [Act.put, List.setIfInBounds_toArray, List.set_cons_zero, List.set_cons_succ, Array.toArray_toList]
              refine tkH 18 ⟨some 64, .move (.tmp 9), 134, "ref.go:279", #[⟨15, .guard⟩], some (15, true)⟩ (v := ?_) hS0 ?_ ?_
              rotate_left
              · intro X ⟨x0, x1, x2, x3, x4, x5⟩; go_simp; try with_reducible rfl
              simp only [Act.put, List.setIfInBounds_toArray, List.set_cons_zero, List.set_cons_succ, Array.toArray_toList]
              refine tkH 19 ⟨some 65, .move (.tmp 11), 3, "ref.go:279", #[⟨15, .guard⟩], some (15, true)⟩ (v := ?_) hS0 ?_ ?_
              rotate_left
              · intro X ⟨x0, x1, x2, x3, x4, x5⟩; go_simp; try with_reducible rfl
              simp only [Act.put, List.setIfInBounds_toArray, List.set_cons_zero, List.set_cons_succ, Array.toArray_toList]
              refine tkH 20 ⟨some 66, .indexAddr 134 (.tmp 64) (.tmp 65), 0, "ref.go:279", #[⟨18, .data⟩, ⟨19, .data⟩, ⟨15, .guard⟩], some (15, true)⟩ (v := ?_) hS0 ?_ ?_
              rotate_left
              · intro X ⟨x0, x1, x2, x3, x4, x5⟩; go_simp; try with_reducible rfl
              simp only [Act.put, List.setIfInBounds_toArray, List.set_cons_zero, List.set_cons_succ, Array.toArray_toList]
              refine tkH 21 ⟨some 67, .load 27 (.tmp 66), 27, "ref.go:279", #[⟨20, .data⟩, ⟨15, .guard⟩], some (15, true)⟩ (v := ?_) hS0 ?_ ?_
              rotate_left
              · intro X ⟨x0, x1, x2, x3, x4, x5⟩; go_simp; try with_reducible rfl
              simp only [Act.put, List.setIfInBounds_toArray, List.set_cons_zero, List.set_cons_succ, Array.toArray_toList]
              refine tkH 22 ⟨some 68, .build 29 #[(0, .tmp 63), (1, .tmp 67)], 29, "ref.go:279", #[⟨17, .data⟩, ⟨21, .data⟩, ⟨15, .guard⟩], some (15, true)⟩ (v := ?_) hS0 ?_ ?_
              rotate_left
              · intro X ⟨x0, x1, x2, x3, x4, x5⟩; go_simp; try with_reducible rfl
              simp only [Act.put, List.setIfInBounds_toArray, List.set_cons_zero, List.set_cons_succ, Array.toArray_toList]
              refine wpAnyH_ready (rs := [23]) (by kernel_rfl) (by simp) (AllReadyH.cons (o := ⟨some 69, .call ⟨.value (.func 52), #[.tmp 62, .tmp 68], #[26, 29]⟩, 27, "ref.go:279", #[⟨16, .data⟩, ⟨22, .data⟩, ⟨15, .chain⟩, ⟨15, .guard⟩], some (15, true)⟩) rfl (fun K hK => ?_) AllReadyH.nil)
              go_simp
              refine (HDK.out wr.drew HB4.out.drew ((Below.refl wr.heap.size wr).drew) true HP.out).mono ?_
              rintro e w4 ⟨A4, n4, k4, rfl, f1, f2, f3, hb4⟩
              go_wp2_with fail
              refine hK.out _ _ (⟨cell_later hb4 hcu, cell_later hb4 e0, cell_later hb4 e1, cell_later hb4 e2, cell_later hb4 e3, cell_later hb4 e4⟩) (fun hS1 => ?_)
              clear hS0 hK K
              refine tkH 24 ⟨some 70, .call ⟨.builtin .len, #[.tmp 69], #[27]⟩, 3, "ref.go:279", #[⟨23, .data⟩, ⟨15, .guard⟩], some (15, true)⟩ (v := ?_) hS1 ?_ ?_
              rotate_left
              · intro X ⟨x0, x1, x2, x3, x4, x5⟩; go_simp; try with_reducible rfl
              simp only [Act.put, List.setIfInBounds_toArray, List.set_cons_zero, List.set_cons_succ, Array.toArray_toList]
              refine tkH 25 ⟨some 71, .binOp .eql 3 (.tmp 70) (.const (.int .i64 0)) 3, 4, "ref.go:279", #[⟨24, .data⟩, ⟨15, .guard⟩], some (15, true)⟩ (v := ?_) hS1 ?_ ?_
              rotate_left
              · intro X ⟨x0, x1, x2, x3, x4, x5⟩; go_simp; try with_reducible rfl
              simp only [Act.put, List.setIfInBounds_toArray, List.set_cons_zero, List.set_cons_succ, Array.toArray_toList]
              refine tkH 26 ⟨some 72, .pick (.tmp 61) (.tmp 71) (.const (.bool false)), 4, "ref.go:279", #[⟨15, .data⟩, ⟨25, .data⟩], none⟩ (v := ?_) hS1 ?_ ?_
              rotate_left
              · intro X ⟨x0, x1, x2, x3, x4, x5⟩; go_simp; try with_reducible rfl
              simp only [Act.put, List.setIfInBounds_toArray, List.set_cons_zero, List.set_cons_succ, Array.toArray_toList]
              refine wpAnyH_done (by kernel_rfl) ?_ _
              clear hS1
              have hcu9 := (cell_later hb4 hcu)
              have HFX := Lib.hid ((HBW.out.drew.trans (hb4.mono (HBW.out.drew).size)))
              have HFB := Lib.hid ((HIU.out.drew.keep hb4 (Nat.le_refl _)))
              clear hcu e0 e1 e2 e3 e4 hb4
              go_wp2_with fail
              go_roundw
              case rel => exact ⟨j + 1, by omega, by go_num, _, _, (by rw [HE.out]; first | done | rfl), by rw [HE.out]; exact HFB.out, HFX.out⟩
              case measure => simp [intOf]; omega
            | false =>
              have HE := Lib.hid (HST.out true false rfl hp)
              simp only [Bool.true_and, Bool.and_true, Bool.and_false, Bool.true_and, if_true, Bool.false_eq_true, if_false] at HE
              have HP := Lib.hid hp
              clear hp HST HSX
              simp only [List.length_nil] at ⊢
              go_wp2_with fail
              refine wp_region_held_drew (S := fun X => X.cell? ⟨b', o' + j, none⟩ = some (.slice Ax x.length cx) ∧ X.cell? ⟨Bs, 0, none⟩ = some (.int .i64 s.cap) ∧ X.cell? ⟨Bs, 1, none⟩ = some (.int .i64 s.can) ∧ X.cell? ⟨Bs, 2, none⟩ = some (.int .i64 s.sl) ∧ X.cell? ⟨Bs, 3, none⟩ = some (.int .i64 s.sh) ∧ X.cell? ⟨Bs, 4, none⟩ = some (.slice A s.ns.length cp)) (by kernel_rfl) (⟨hcu, e0, e1, e2, e3, e4⟩) (fun hS0 => ?_)
              refine tkH 0 ⟨some 46, .move (.tmp 10), 27, "ref.go:279", #[], none⟩ (v := ?_) hS0 ?_ ?_
              rotate_left
              · intro X ⟨x0, x1, x2, x3, x4, x5⟩; go_simp; try with_reducible rfl
              simp only [Act.put, List.setIfInBounds_toArray, List.set_cons_zero, List.set_cons_succ, Array.toArray_toList]
              refine tkH 1 ⟨some 47, .call ⟨.builtin .len, #[.tmp 46], #[27]⟩, 3, "ref.go:279", #[⟨0, .data⟩], none⟩ (v := ?_) hS0 ?_ ?_
              rotate_left
              · intro X ⟨x0, x1, x2, x3, x4, x5⟩; go_simp; try with_reducible rfl
              simp only [Act.put, List.setIfInBounds_toArray, List.set_cons_zero, List.set_cons_succ, Array.toArray_toList]
              refine tkH 2 ⟨some 48, .binOp .eql 3 (.tmp 47) (.const (.int .i64 0)) 3, 4, "ref.go:279", #[⟨1, .data⟩], none⟩ (v := ?_) hS0 ?_ ?_
              rotate_left
              · intro X ⟨x0, x1, x2, x3, x4, x5⟩; go_simp; try with_reducible rfl
              simp only [Act.put, List.setIfInBounds_toArray, List.set_cons_zero, List.set_cons_succ, Array.toArray_toList]
              refine tkH 3 ⟨some 49, .move (.tmp 48), 4, "ref.go:279", #[⟨2, .data⟩], none⟩ (v := ?_) hS0 ?_ ?_
              rotate_left
              · intro X ⟨x0, x1, x2, x3, x4, x5⟩; go_simp; try with_reducible rfl
              simp only [Act.put, List.setIfInBounds_toArray, List.set_cons_zero, List.set_cons_succ, Array.toArray_toList]
              refine wpAnyH_take (i := 4) (oi := ⟨some 50, .load 26 (.tmp 2), 26, "ref.go:279", #[⟨3, .guard⟩], some (3, false)⟩) (v := undef) rfl (by kernel_rfl) (by kernel_rfl) (by kernel_rfl) (fun _ _ _ h => h) (Or.inr ⟨by rfl, rfl⟩) hS0 ?_
              simp only [Act.put, List.setIfInBounds_toArray, List.set_cons_zero, List.set_cons_succ, Array.toArray_toList]
              refine wpAnyH_take (i := 5) (oi := ⟨some 51, .move (.tmp 9), 134, "ref.go:279", #[⟨3, .guard⟩], some (3, false)⟩) (v := undef) rfl (by kernel_rfl) (by kernel_rfl) (by kernel_rfl) (fun _ _ _ h => h) (Or.inr ⟨by rfl, rfl⟩) hS0 ?_
              simp only [Act.put, List.setIfInBounds_toArray, List.set_cons_zero, List.set_cons_succ, Array.toArray_toList]
              refine wpAnyH_take (i := 6) (oi := ⟨some 52, .move (.tmp 11), 3, "ref.go:279", #[⟨3, .guard⟩], some (3, false)⟩) (v := undef) rfl (by kernel_rfl) (by kernel_rfl) (by kernel_rfl) (fun _ _ _ h => h) (Or.inr ⟨by rfl, rfl⟩) hS0 ?_
              simp only [Act.put, List.setIfInBounds_toArray, List.set_cons_zero, List.set_cons_succ, Array.toArray_toList]
              refine wpAnyH_take (i := 7) (oi := ⟨some 53, .indexAddr 134 (.tmp 51) (.tmp 52), 0, "ref.go:279", #[⟨5, .data⟩, ⟨6, .data⟩, ⟨3, .guard⟩], some (3, false)⟩) (v := undef) rfl (by kernel_rfl) (by kernel_rfl) (by kernel_rfl) (fun _ _ _ h => h) (Or.inr ⟨by rfl, rfl⟩) hS0 ?_
              simp only [Act.put, List.setIfInBounds_toArray, List.set_cons_zero, List.set_cons_succ, Array.toArray_toList]
              refine wpAnyH_take (i := 8) (oi := ⟨some 54, .load 27 (.tmp 53), 27, "ref.go:279", #[⟨7, .data⟩, ⟨3, .guard⟩], some (3, false)⟩) (v := undef) rfl (by kernel_rfl) (by kernel_rfl) (by kernel_rfl) (fun _ _ _ h => h) (Or.inr ⟨by rfl, rfl⟩) hS0 ?_
              simp only [Act.put, List.setIfInBounds_toArray, List.set_cons_zero, List.set_cons_succ, Array.toArray_toList]
              refine wpAnyH_take (i := 9) (oi := ⟨some 55, .call ⟨.value (.func 41), #[.tmp 50, .tmp 54], #[26, 27]⟩, 3, "ref.go:279", #[⟨4, .data⟩, ⟨8, .data⟩, ⟨3, .chain⟩, ⟨3, .guard⟩], some (3, false)⟩) (v := undef) rfl (by kernel_rfl) (by kernel_rfl) (by kernel_rfl) (fun _ _ _ h => h) (Or.inr ⟨by rfl, rfl⟩) hS0 ?_
              simp only [Act.put, List.setIfInBounds_toArray, List.set_cons_zero, List.set_cons_succ, Array.toArray_toList]
              refine wpAnyH_take (i := 10) (oi := ⟨some 56, .load 26 (.tmp 2), 26, "ref.go:279", #[⟨3, .guard⟩], some (3, false)⟩) (v := undef) rfl (by kernel_rfl) (by kernel_rfl) (by kernel_rfl) (fun _ _ _ h => h) (Or.inr ⟨by rfl, rfl⟩) hS0 ?_
              simp only [Act.put, List.setIfInBounds_toArray, List.set_cons_zero, List.set_cons_succ, Array.toArray_toList]
              refine wpAnyH_take (i := 11) (oi := ⟨some 57, .move (.tmp 10), 27, "ref.go:279", #[⟨3, .guard⟩], some (3, false)⟩) (v := undef) rfl (by kernel_rfl) (by kernel_rfl) (by kernel_rfl) (fun _ _ _ h => h) (Or.inr ⟨by rfl, rfl⟩) hS0 ?_
              simp only [Act.put, List.setIfInBounds_toArray, List.set_cons_zero, List.set_cons_succ, Array.toArray_toList]
              refine wpAnyH_take (i := 12) (oi := ⟨some 58, .call ⟨.value (.func 41), #[.tmp 56, .tmp 57], #[26, 27]⟩, 3, "ref.go:279", #[⟨10, .data⟩, ⟨11, .data⟩, ⟨9, .chain⟩, ⟨3, .guard⟩], some (3, false)⟩) (v := undef) rfl (by kernel_rfl) (by kernel_rfl) (by kernel_rfl) (fun _ _ _ h => h) (Or.inr ⟨by rfl, rfl⟩) hS0 ?_
              simp only [Act.put, List.setIfInBounds_toArray, List.set_cons_zero, List.set_cons_succ, Array.toArray_toList]
              refine wpAnyH_take (i := 13) (oi := ⟨some 59, .binOp .gtr 3 (.tmp 55) (.tmp 58) 3, 4, "ref.go:279", #[⟨9, .data⟩, ⟨12, .data⟩, ⟨3, .guard⟩], some (3, false)⟩) (v := undef) rfl (by kernel_rfl) (by kernel_rfl) (by kernel_rfl) (fun _ _ _ h => h) (Or.inr ⟨by rfl, rfl⟩) hS0 ?_
              simp only [Act.put, List.setIfInBounds_toArray, List.set_cons_zero, List.set_cons_succ, Array.toArray_toList]
              refine tkH 14 ⟨some 60, .pick (.tmp 49) (.const (.bool true)) (.tmp 59), 4, "ref.go:279", #[⟨3, .data⟩, ⟨13, .data⟩], none⟩ (v := ?_) hS0 ?_ ?_
              rotate_left
              · intro X ⟨x0, x1, x2, x3, x4, x5⟩; go_simp; try with_reducible rfl
              simp only [Act.put, List.setIfInBounds_toArray, List.set_cons_zero, List.set_cons_succ, Array.toArray_toList]
              refine tkH 15 ⟨some 61, .move (.tmp 60), 4, "ref.go:279", #[⟨14, .data⟩, ⟨12, .chain⟩], none⟩ (v := ?_) hS0 ?_ ?_
              rotate_left
              · intro X ⟨x0, x1, x2, x3, x4, x5⟩; go_simp; try with_reducible rfl
              simp only [Act.put, List.setIfInBounds_toArray, List.set_cons_zero, List.set_cons_succ, Array.toArray_toList]
              refine tkH 16 ⟨some 62, .load 26 (.tmp 2), 26, "ref.go:279", #[⟨15, .guard⟩], some (15, true)⟩ (v := ?_) hS0 ?_ ?_
              rotate_left
              · intro X ⟨x0, x1, x2, x3, x4, x5⟩; go_simp; try with_reducible rfl
              simp only [Act.put, List.setIfInBounds_toArray, List.set_cons_zero, List.set_cons_succ, Array.toArray_toList]
              refine tkH 17 ⟨some 63, .move (.tmp 1), 27, "ref.go:279", #[⟨15, .guard⟩], some (15, true)⟩ (v := ?_) hS0 ?_ ?_
              rotate_left
              · intro X ⟨x0, x1, x2, x3, x4, x5⟩; go_simp; try with_reducible rfl
              simp only [Act.put, List.setIfInBounds_toArray, List.set_cons_zero, List.set_cons_succ, Array.toArray_toList]
              refine tkH 18 ⟨some 64, .move (.tmp 9), 134, "ref.go:279", #[⟨15, .guard⟩], some (15, true)⟩ (v := ?_) hS0 ?_ ?_
              rotate_left
              · intro X ⟨x0, x1, x2, x3, x4, x5⟩; go_simp; try with_reducible rfl
              simp only [Act.put, List.setIfInBounds_toArray, List.set_cons_zero, List.set_cons_succ, Array.toArray_toList]
              refine tkH 19 ⟨some 65, .move (.tmp 11), 3, "ref.go:279", #[⟨15, .guard⟩], some (15, true)⟩ (v := ?_) hS0 ?_ ?_
              rotate_left
              · intro X ⟨x0, x1, x2, x3, x4, x5⟩; go_simp; try with_reducible rfl
              simp only [Act.put, List.setIfInBounds_toArray, List.set_cons_zero, List.set_cons_succ, Array.toArray_toList]
              refine tkH 20 ⟨some 66, .indexAddr 134 (.tmp 64) (.tmp 65), 0, "ref.go:279", #[⟨18, .data⟩, ⟨19, .data⟩, ⟨15, .guard⟩], some (15, true)⟩ (v := ?_) hS0 ?_ ?_
              rotate_left
              · intro X ⟨x0, x1, x2, x3, x4, x5⟩; go_simp; try with_reducible rfl
              simp only [Act.put, List.setIfInBounds_toArray, List.set_cons_zero, List.set_cons_succ, Array.toArray_toList]
              refine tkH 21 ⟨some 67, .load 27 (.tmp 66), 27, "ref.go:279", #[⟨20, .data⟩, ⟨15, .guard⟩], some (15, true)⟩ (v := ?_) hS0 ?_ ?_
              rotate_left
              · intro X ⟨x0, x1, x2, x3, x4, x5⟩; go_simp; try with_reducible rfl
              simp only [Act.put, List.setIfInBounds_toArray, List.set_cons_zero, List.set_cons_succ, Array.toArray_toList]
              refine tkH 22 ⟨some 68, .build 29 #[(0, .tmp 63), (1, .tmp 67)], 29, "ref.go:279", #[⟨17, .data⟩, ⟨21, .data⟩, ⟨15, .guard⟩], some (15, true)⟩ (v := ?_) hS0 ?_ ?_
              rotate_left
              · intro X ⟨x0, x1, x2, x3, x4, x5⟩; go_simp; try with_reducible rfl
              simp only [Act.put, List.setIfInBounds_toArray, List.set_cons_zero, List.set_cons_succ, Array.toArray_toList]
              refine wpAnyH_ready (rs := [23]) (by kernel_rfl) (by simp) (AllReadyH.cons (o := ⟨some 69, .call ⟨.value (.func 52), #[.tmp 62, .tmp 68], #[26, 29]⟩, 27, "ref.go:279", #[⟨16, .data⟩, ⟨22, .data⟩, ⟨15, .chain⟩, ⟨15, .guard⟩], some (15, true)⟩) rfl (fun K hK => ?_) AllReadyH.nil)
              go_simp
              refine (HDK.out wr.drew HB4.out.drew ((Below.refl wr.heap.size wr).drew) false HP.out).mono ?_
              rintro e w4 ⟨A4, n4, k4, rfl, f1, f2, f3, hb4⟩
              go_wp2_with fail
              refine hK.out _ _ (⟨cell_later hb4 hcu, cell_later hb4 e0, cell_later hb4 e1, cell_later hb4 e2, cell_later hb4 e3, cell_later hb4 e4⟩) (fun hS1 => ?_)
              clear hS0 hK K
              refine tkH 24 ⟨some 70, .call ⟨.builtin .len, #[.tmp 69], #[27]⟩, 3, "ref.go:279", #[⟨23, .data⟩, ⟨15, .guard⟩], some (15, true)⟩ (v := ?_) hS1 ?_ ?_
              rotate_left
              · intro X ⟨x0, x1, x2, x3, x4, x5⟩; go_simp; try with_reducible rfl
              simp only [Act.put, List.setIfInBounds_toArray, List.set_cons_zero, List.set_cons_succ, Array.toArray_toList]
              refine tkH 25 ⟨some 71, .binOp .eql 3 (.tmp 70) (.const (.int .i64 0)) 3, 4, "ref.go:279", #[⟨24, .data⟩, ⟨15, .guard⟩], some (15, true)⟩ (v := ?_) hS1 ?_ ?_
              rotate_left
              · intro X ⟨x0, x1, x2, x3, x4, x5⟩; go_simp; try with_reducible rfl
              simp only [Act.put, List.setIfInBounds_toArray, List.set_cons_zero, List.set_cons_succ, Array.toArray_toList]
              refine tkH 26 ⟨some 72, .pick (.tmp 61) (.tmp 71) (.const (.bool false)), 4, "ref.go:279", #[⟨15, .data⟩, ⟨25, .data⟩], none⟩ (v := ?_) hS1 ?_ ?_
              rotate_left
              · intro X ⟨x0, x1, x2, x3, x4, x5⟩; go_simp; try with_reducible rfl
              simp only [Act.put, List.setIfInBounds_toArray, List.set_cons_zero, List.set_cons_succ, Array.toArray_toList]
              refine wpAnyH_done (by kernel_rfl) ?_ _
              clear hS1
              have HFX := Lib.hid ((HBW.out.drew.trans (hb4.mono (HBW.out.drew).size)))
              have HFB := Lib.hid ((HBI.out.drew.keep hb4 (Nat.le_refl _)))
              clear hcu e0 e1 e2 e3 e4 hb4
              go_wp2_with fail
              go_roundw
              case rel => exact ⟨j + 1, by omega, by go_num, _, _, (by rw [HE.out]; first | done | rfl), by rw [HE.out]; exact HFB.out, HFX.out⟩
              case measure => simp [intOf]; omega
          · have hBm2 := HMEM.out _ hBm
            have hBne := HNE.out _ hBm
            obtain ⟨hbl, hbb⟩ := wicksB_true.1 hBm2
            have HSB := Lib.hid (fun W (h : Below w.heap.size w W) (h2 : Below wr.heap.size wr W) => light_any s A cp (.slice Ab B.length cb) B W HOK.out (HA.out.keep h (Nat.le_refl _)) (HBI.out.keep h2 (Nat.le_refl _)) hbl (fun i hi => by have := hbb i hi; have := HOK.out.nt i hi; omega))
            have hBpos : 0 < B.length := List.length_pos_iff.2 hBne
            have hBe : B.isEmpty = false := by cases B with | nil => exact absurd rfl hBne | cons _ _ => rfl
            have g1 : ((B.length : Int) == 0) = false := by simp; omega
            have g2 : decide ((B.length : Int) = 0) = false := by simp; omega
            have g3 : decide (B.length = 0) = false := by simp; omega
            have g4 : B ≠ [] := hBne
            have g5 : (B == []) = false := by simpa using hBne
            have g6 : decide (B = []) = false := by simpa using hBne
            clear hBm hBm2 hBne hbl hbb hBpos
            obtain ⟨X, hX⟩ : ∃ X, lightL s x = X := ⟨_, rfl⟩
            obtain ⟨Y, hY⟩ : ∃ Y, lightL s B = Y := ⟨_, rfl⟩
            rw [hX] at HSX
            rw [hY] at HSB
            rw [hBe] at HST
            simp only [hX, hY, Bool.false_or] at HST
            clear hX hY hBe
            cases hc : decide (Y < X) with
            | false =>
              have hc8 : decide (X > Y) = false := hc
              have hc9 : decide (-X < -Y) = false := by rw [← hc]; simp only [decide_eq_decide]; omega
              have HE := Lib.hid (show bestR (fun l => provePlanB s k l) (fun l => -lightL s l) ls (j + 1) = B from by
                cases hp : provePlanB s k x with
                | true => have h := HST.out false true hc9 hp; simpa using h
                | false => have h := HST.out false false hc9 hp; simpa using h)
              clear HST
              go_wp2_with fail
              refine wp_region_held_drew (S := fun X => X.cell? ⟨b', o' + j, none⟩ = some (.slice Ax x.length cx) ∧ X.cell? ⟨Bs, 0, none⟩ = some (.int .i64 s.cap) ∧ X.cell? ⟨Bs, 1, none⟩ = some (.int .i64 s.can) ∧ X.cell? ⟨Bs, 2, none⟩ = some (.int .i64 s.sl) ∧ X.cell? ⟨Bs, 3, none⟩ = some (.int .i64 s.sh) ∧ X.cell? ⟨Bs, 4, none⟩ = some (.slice A s.ns.length cp)) (by kernel_rfl) (⟨hcu, e0, e1, e2, e3, e4⟩) (fun hS0 => ?_)
              refine tkH 0 ⟨some 46, .move (.tmp 10), 27, "ref.go:279", #[], none⟩ (v := ?_) hS0 ?_ ?_
              rotate_left
              · intro X ⟨x0, x1, x2, x3, x4, x5⟩; go_simp; try with_reducible rfl
              simp only [Act.put, List.setIfInBounds_toArray, List.set_cons_zero, List.set_cons_succ, Array.toArray_toList]
              refine tkH 1 ⟨some 47, .call ⟨.builtin .len, #[.tmp 46], #[27]⟩, 3, "ref.go:279", #[⟨0, .data⟩], none⟩ (v := ?_) hS0 ?_ ?_
              rotate_left
              · intro X ⟨x0, x1, x2, x3, x4, x5⟩; go_simp; try with_reducible rfl
              simp only [Act.put, List.setIfInBounds_toArray, List.set_cons_zero, List.set_cons_succ, Array.toArray_toList]
              refine tkH 2 ⟨some 48, .binOp .eql 3 (.tmp 47) (.const (.int .i64 0)) 3, 4, "ref.go:279", #[⟨1, .data⟩], none⟩ (v := ?_) hS0 ?_ ?_
              rotate_left
              · intro X ⟨x0, x1, x2, x3, x4, x5⟩; go_simp; try with_reducible rfl
              simp only [Act.put, List.setIfInBounds_toArray, List.set_cons_zero, List.set_cons_succ, Array.toArray_toList]
              refine tkH 3 ⟨some 49, .move (.tmp 48), 4, "ref.go:279", #[⟨2, .data⟩], none⟩ (v := ?_) hS0 ?_ ?_
              rotate_left
              · intro X ⟨x0, x1, x2, x3, x4, x5⟩; go_simp; try with_reducible rfl
              simp only [Act.put, List.setIfInBounds_toArray, List.set_cons_zero, List.set_cons_succ, Array.toArray_toList]
              refine tkH 4 ⟨some 50, .load 26 (.tmp 2), 26, "ref.go:279", #[⟨3, .guard⟩], some (3, false)⟩ (v := ?_) hS0 ?_ ?_
              rotate_left
              · intro X ⟨x0, x1, x2, x3, x4, x5⟩; go_simp; try with_reducible rfl
              simp only [Act.put, List.setIfInBounds_toArray, List.set_cons_zero, List.set_cons_succ, Array.toArray_toList]
              refine tkH 5 ⟨some 51, .move (.tmp 9), 134, "ref.go:279", #[⟨3, .guard⟩], some (3, false)⟩ (v := ?_) hS0 ?_ ?_
              rotate_left
              · intro X ⟨x0, x1, x2, x3, x4, x5⟩; go_simp; try with_reducible rfl
              simp only [Act.put, List.setIfInBounds_toArray, List.set_cons_zero, List.set_cons_succ, Array.toArray_toList]
              refine tkH 6 ⟨some 52, .move (.tmp 11), 3, "ref.go:279", #[⟨3, .guard⟩], some (3, false)⟩ (v := ?_) hS0 ?_ ?_
              rotate_left
              · intro X ⟨x0, x1, x2, x3, x4, x5⟩; go_simp; try with_reducible rfl
              simp only [Act.put, List.setIfInBounds_toArray, List.set_cons_zero, List.set_cons_succ, Array.toArray_toList]
              refine tkH 7 ⟨some 53, .indexAddr 134 (.tmp 51) (.tmp 52), 0, "ref.go:279", #[⟨5, .data⟩, ⟨6, .data⟩, ⟨3, .guard⟩], some (3, false)⟩ (v := ?_) hS0 ?_ ?_
              rotate_left
              · intro X ⟨x0, x1, x2, x3, x4, x5⟩; go_simp; try with_reducible rfl
              simp only [Act.put, List.setIfInBounds_toArray, List.set_cons_zero, List.set_cons_succ, Array.toArray_toList]
              refine tkH 8 ⟨some 54, .load 27 (.tmp 53), 27, "ref.go:279", #[⟨7, .data⟩, ⟨3, .guard⟩], some (3, false)⟩ (v := ?_) hS0 ?_ ?_
              rotate_left
              · intro X ⟨x0, x1, x2, x3, x4, x5⟩; go_simp; try with_reducible rfl
              simp only [Act.put, List.setIfInBounds_toArray, List.set_cons_zero, List.set_cons_succ, Array.toArray_toList]
              refine tkH 10 ⟨some 56, .load 26 (.tmp 2), 26, "ref.go:279", #[⟨3, .guard⟩], some (3, false)⟩ (v := ?_) hS0 ?_ ?_
              rotate_left
              · intro X ⟨x0, x1, x2, x3, x4, x5⟩; go_simp; try with_reducible rfl
              simp only [Act.put, List.setIfInBounds_toArray, List.set_cons_zero, List.set_cons_succ, Array.toArray_toList]
              refine tkH 11 ⟨some 57, .move (.tmp 10), 27, "ref.go:279", #[⟨3, .guard⟩], some (3, false)⟩ (v := ?_) hS0 ?_ ?_
              rotate_left
              · intro X ⟨x0, x1, x2, x3, x4, x5⟩; go_simp; try with_reducible rfl
              simp only [Act.put, List.setIfInBounds_toArray, List.set_cons_zero, List.set_cons_succ, Array.toArray_toList]
              refine wpAnyH_ready (rs := [9]) (by kernel_rfl) (by simp) (AllReadyH.cons (o := ⟨some 55, .call ⟨.value (.func 41), #[.tmp 50, .tmp 54], #[26, 27]⟩, 3, "ref.go:279", #[⟨4, .data⟩, ⟨8, .data⟩, ⟨3, .chain⟩, ⟨3, .guard⟩], some (3, false)⟩) rfl (fun K hK => ?_) AllReadyH.nil)
              go_simp
              refine HSX.out.mono ?_
              rintro e x1 ⟨rfl, hb1⟩
              go_wp2_with fail
              refine hK.out _ _ (⟨cell_later hb1 hcu, cell_later hb1 e0, cell_later hb1 e1, cell_later hb1 e2, cell_later hb1 e3, cell_later hb1 e4⟩) (fun hS1 => ?_)
              clear hS0 hK K
              refine wpAnyH_ready (rs := [12]) (by kernel_rfl) (by simp) (AllReadyH.cons (o := ⟨some 58, .call ⟨.value (.func 41), #[.tmp 56, .tmp 57], #[26, 27]⟩, 3, "ref.go:279", #[⟨10, .data⟩, ⟨11, .data⟩, ⟨9, .chain⟩, ⟨3, .guard⟩], some (3, false)⟩) rfl (fun K hK => ?_) AllReadyH.nil)
              go_simp
              refine (HSB.out x1 (HB4.out.drew.trans (hb1.mono HB4.out.drew.size)) (((Below.refl _ wr).drew).trans (hb1.mono (Nat.le_refl _)))).mono ?_
              rintro e x2 ⟨rfl, hb2⟩
              go_wp2_with fail
              refine hK.out _ _ (⟨cell_later hb2 (cell_later hb1 hcu), cell_later hb2 (cell_later hb1 e0), cell_later hb2 (cell_later hb1 e1), cell_later hb2 (cell_later hb1 e2), cell_later hb2 (cell_later hb1 e3), cell_later hb2 (cell_later hb1 e4)⟩) (fun hS2 => ?_)
              clear hS1 hK K
              refine tkH 13 ⟨some 59, .binOp .gtr 3 (.tmp 55) (.tmp 58) 3, 4, "ref.go:279", #[⟨9, .data⟩, ⟨12, .data⟩, ⟨3, .guard⟩], some (3, false)⟩ (v := ?_) hS2 ?_ ?_
              rotate_left
              · intro X ⟨x0, x1, x2, x3, x4, x5⟩; go_simp; try with_reducible rfl
              simp only [Act.put, List.setIfInBounds_toArray, List.set_cons_zero, List.set_cons_succ, Array.toArray_toList]
              refine tkH 14 ⟨some 60, .pick (.tmp 49) (.const (.bool true)) (.tmp 59), 4, "ref.go:279", #[⟨3, .data⟩, ⟨13, .data⟩], none⟩ (v := ?_) hS2 ?_ ?_
              rotate_left
              · intro X ⟨x0, x1, x2, x3, x4, x5⟩; go_simp; try with_reducible rfl
              simp only [Act.put, List.setIfInBounds_toArray, List.set_cons_zero, List.set_cons_succ, Array.toArray_toList]
              refine tkH 15 ⟨some 61, .move (.tmp 60), 4, "ref.go:279", #[⟨14, .data⟩, ⟨12, .chain⟩], none⟩ (v := ?_) hS2 ?_ ?_
              rotate_left
              · intro X ⟨x0, x1, x2, x3, x4, x5⟩; go_simp; try with_reducible rfl
              simp only [Act.put, List.setIfInBounds_toArray, List.set_cons_zero, List.set_cons_succ, Array.toArray_toList]
              refine wpAnyH_take (i := 16) (oi := ⟨some 62, .load 26 (.tmp 2), 26, "ref.go:279", #[⟨15, .guard⟩], some (15, true)⟩) (v := undef) rfl (by kernel_rfl) (by kernel_rfl) (by kernel_rfl) (fun _ _ _ h => h) (Or.inr ⟨by rfl, rfl⟩) hS2 ?_
              simp only [Act.put, List.setIfInBounds_toArray, List.set_cons_zero, List.set_cons_succ, Array.toArray_toList]
              refine wpAnyH_take (i := 17) (oi := ⟨some 63, .move (.tmp 1), 27, "ref.go:279", #[⟨15, .guard⟩], some (15, true)⟩) (v := undef) rfl (by kernel_rfl) (by kernel_rfl) (by kernel_rfl) (fun _ _ _ h => h) (Or.inr ⟨by rfl, rfl⟩) hS2 ?_
              simp only [Act.put, List.setIfInBounds_toArray, List.set_cons_zero, List.set_cons_succ, Array.toArray_toList]
              refine wpAnyH_take (i := 18) (oi := ⟨some 64, .move (.tmp 9), 134, "ref.go:279", #[⟨15, .guard⟩], some (15, true)⟩) (v := undef) rfl (by kernel_rfl) (by kernel_rfl) (by kernel_rfl) (fun _ _ _ h => h) (Or.inr ⟨by rfl, rfl⟩) hS2 ?_
              simp only [Act.put, List.setIfInBounds_toArray, List.set_cons_zero, List.set_cons_succ, Array.toArray_toList]
              refine wpAnyH_take (i := 19) (oi := ⟨some 65, .move (.tmp 11), 3, "ref.go:279", #[⟨15, .guard⟩], some (15, true)⟩) (v := undef) rfl (by kernel_rfl) (by kernel_rfl) (by kernel_rfl) (fun _ _ _ h => h) (Or.inr ⟨by rfl, rfl⟩) hS2 ?_
              simp only [Act.put, List.setIfInBounds_toArray, List.set_cons_zero, List.set_cons_succ, Array.toArray_toList]
              refine wpAnyH_take (i := 20) (oi := ⟨some 66, .indexAddr 134 (.tmp 64) (.tmp 65), 0, "ref.go:279", #[⟨18, .data⟩, ⟨19, .data⟩, ⟨15, .guard⟩], some (15, true)⟩) (v := undef) rfl (by kernel_rfl) (by kernel_rfl) (by kernel_rfl) (fun _ _ _ h => h) (Or.inr ⟨by rfl, rfl⟩) hS2 ?_
              simp only [Act.put, List.setIfInBounds_toArray, List.set_cons_zero, List.set_cons_succ, Array.toArray_toList]
              refine wpAnyH_take (i := 21) (oi := ⟨some 67, .load 27 (.tmp 66), 27, "ref.go:279", #[⟨20, .data⟩, ⟨15, .guard⟩], some (15, true)⟩) (v := undef) rfl (by kernel_rfl) (by kernel_rfl) (by kernel_rfl) (fun _ _ _ h => h) (Or.inr ⟨by rfl, rfl⟩) hS2 ?_
              simp only [Act.put, List.setIfInBounds_toArray, List.set_cons_zero, List.set_cons_succ, Array.toArray_toList]
              refine wpAnyH_take (i := 22) (oi := ⟨some 68, .build 29 #[(0, .tmp 63), (1, .tmp 67)], 29, "ref.go:279", #[⟨17, .data⟩, ⟨21, .data⟩, ⟨15, .guard⟩], some (15, true)⟩) (v := undef) rfl (by kernel_rfl) (by kernel_rfl) (by kernel_rfl) (fun _ _ _ h => h) (Or.inr ⟨by rfl, rfl⟩) hS2 ?_
              simp only [Act.put, List.setIfInBounds_toArray, List.set_cons_zero, List.set_cons_succ, Array.toArray_toList]
              refine wpAnyH_take (i := 23) (oi := ⟨some 69, .call ⟨.value (.func 52), #[.tmp 62, .tmp 68], #[26, 29]⟩, 27, "ref.go:279", #[⟨16, .data⟩, ⟨22, .data⟩, ⟨15, .chain⟩, ⟨15, .guard⟩], some (15, true)⟩) (v := undef) rfl (by kernel_rfl) (by kernel_rfl) (by kernel_rfl) (fun _ _ _ h => h) (Or.inr ⟨by rfl, rfl⟩) hS2 ?_
              simp only [Act.put, List.setIfInBounds_toArray, List.set_cons_zero, List.set_cons_succ, Array.toArray_toList]
              refine wpAnyH_take (i := 24) (oi := ⟨some 70, .call ⟨.builtin .len, #[.tmp 69], #[27]⟩, 3, "ref.go:279", #[⟨23, .data⟩, ⟨15, .guard⟩], some (15, true)⟩) (v := undef) rfl (by kernel_rfl) (by kernel_rfl) (by kernel_rfl) (fun _ _ _ h => h) (Or.inr ⟨by rfl, rfl⟩) hS2 ?_
              simp only [Act.put, List.setIfInBounds_toArray, List.set_cons_zero, List.set_cons_succ, Array.toArray_toList]
              refine wpAnyH_take (i := 25) (oi := ⟨some 71, .binOp .eql 3 (.tmp 70) (.const (.int .i64 0)) 3, 4, "ref.go:279", #[⟨24, .data⟩, ⟨15, .guard⟩], some (15, true)⟩) (v := undef) rfl (by kernel_rfl) (by kernel_rfl) (by kernel_rfl) (fun _ _ _ h => h) (Or.inr ⟨by rfl, rfl⟩) hS2 ?_
              simp only [Act.put, List.setIfInBounds_toArray, List.set_cons_zero, List.set_cons_succ, Array.toArray_toList]
              refine tkH 26 ⟨some 72, .pick (.tmp 61) (.tmp 71) (.const (.bool false)), 4, "ref.go:279", #[⟨15, .data⟩, ⟨25, .data⟩], none⟩ (v := ?_) hS2 ?_ ?_
              rotate_left
              · intro X ⟨x0, x1, x2, x3, x4, x5⟩; go_simp; try with_reducible rfl
              simp only [Act.put, List.setIfInBounds_toArray, List.set_cons_zero, List.set_cons_succ, Array.toArray_toList]
              refine wpAnyH_done (by kernel_rfl) ?_ _
              clear hS2
              have HFX := Lib.hid (((HBW.out.drew.trans (hb1.mono (HBW.out.drew).size)).trans (hb2.mono ((HBW.out.drew.trans (hb1.mono (HBW.out.drew).size))).size)))
              have HFB := Lib.hid (((HBI.out.drew.keep hb1 (Nat.le_refl _)).keep hb2 (Nat.le_refl _)))
              clear hcu e0 e1 e2 e3 e4 hb1 hb2
              go_wp2_with fail
              go_roundw
              case rel => exact ⟨j + 1, by omega, by go_num, _, _, (by rw [HE.out]; first | done | rfl), by rw [HE.out]; exact HFB.out, HFX.out⟩
              case measure => simp [intOf]; omega
            | true =>
              have hc8 : decide (X > Y) = true := hc
              have hc9 : decide (-X < -Y) = true := by rw [← hc]; simp only [decide_eq_decide]; omega
              cases hp : provePlanB s k x with
              | true =>
                have HE := Lib.hid (HST.out true true hc9 hp)
                simp only [Bool.true_and, Bool.and_true, Bool.and_false, if_true, Bool.false_eq_true, if_false] at HE
                have HP := Lib.hid hp
                clear hp HST
                go_wp2_with fail
                refine wp_region_held_drew (S := fun X => X.cell? ⟨b', o' + j, none⟩ = some (.slice Ax x.length cx) ∧ X.cell? ⟨Bs, 0, none⟩ = some (.int .i64 s.cap) ∧ X.cell? ⟨Bs, 1, none⟩ = some (.int .i64 s.can) ∧ X.cell? ⟨Bs, 2, none⟩ = some (.int .i64 s.sl) ∧ X.cell? ⟨Bs, 3, none⟩ = some (.int .i64 s.sh) ∧ X.cell? ⟨Bs, 4, none⟩ = some (.slice A s.ns.length cp)) (by kernel_rfl) (⟨hcu, e0, e1, e2, e3, e4⟩) (fun hS0 => ?_)
                refine tkH 0 ⟨some 46, .move (.tmp 10), 27, "ref.go:279", #[], none⟩ (v := ?_) hS0 ?_ ?_
                rotate_left
                · intro X ⟨x0, x1, x2, x3, x4, x5⟩; go_simp; try with_reducible rfl
                simp only [Act.put, List.setIfInBounds_toArray, List.set_cons_zero, List.set_cons_succ, Array.toArray_toList]
                refine tkH 1 ⟨some 47, .call ⟨.builtin .len, #[.tmp 46], #[27]⟩, 3, "ref.go:279", #[⟨0, .data⟩], none⟩ (v := ?_) hS0 ?_ ?_
                rotate_left
                · intro X ⟨x0, x1, x2, x3, x4, x5⟩; go_simp; try with_reducible rfl
                simp only [Act.put, List.setIfInBounds_toArray, List.set_cons_zero, List.set_cons_succ, Array.toArray_toList]
                refine tkH 2 ⟨some 48, .binOp .eql 3 (.tmp 47) (.const (.int .i64 0)) 3, 4, "ref.go:279", #[⟨1, .data⟩], none⟩ (v := ?_) hS0 ?_ ?_
                rotate_left
                · intro X ⟨x0, x1, x2, x3, x4, x5⟩; go_simp; try with_reducible rfl
                simp only [Act.put, List.setIfInBounds_toArray, List.set_cons_zero, List.set_cons_succ, Array.toArray_toList]
                refine tkH 3 ⟨some 49, .move (.tmp 48), 4, "ref.go:279", #[⟨2, .data⟩], none⟩ (v := ?_) hS0 ?_ ?_
                rotate_left
                · intro X ⟨x0, x1, x2, x3, x4, x5⟩; go_simp; try with_reducible rfl
                simp only [Act.put, List.setIfInBounds_toArray, List.set_cons_zero, List.set_cons_succ, Array.toArray_toList]
                refine tkH 4 ⟨some 50, .load 26 (.tmp 2), 26, "ref.go:279", #[⟨3, .guard⟩], some (3, false)⟩ (v := ?_) hS0 ?_ ?_
                rotate_left
                · intro X ⟨x0, x1, x2, x3, x4, x5⟩; go_simp; try with_reducible rfl
                simp only [Act.put, List.setIfInBounds_toArray, List.set_cons_zero, List.set_cons_succ, Array.toArray_toList]
                refine tkH 5 ⟨some 51, .move (.tmp 9), 134, "ref.go:279", #[⟨3, .guard⟩], some (3, false)⟩ (v := ?_) hS0 ?_ ?_
                rotate_left
                · intro X ⟨x0, x1, x2, x3, x4, x5⟩; go_simp; try with_reducible rfl
                simp only [Act.put, List.setIfInBounds_toArray, List.set_cons_zero, List.set_cons_succ, Array.toArray_toList]
                refine tkH 6 ⟨some 52, .move (.tmp 11), 3, "ref.go:279", #[⟨3, .guard⟩], some (3, false)⟩ (v := ?_) hS0 ?_ ?_
                rotate_left
                · intro X ⟨x0, x1, x2, x3, x4, x5⟩; go_simp; try with_reducible rfl
                simp only [Act.put, List.setIfInBounds_toArray, List.set_cons_zero, List.set_cons_succ, Array.toArray_toList]
                refine tkH 7 ⟨some 53, .indexAddr 134 (.tmp 51) (.tmp 52), 0, "ref.go:279", #[⟨5, .data⟩, ⟨6, .data⟩, ⟨3, .guard⟩], some (3, false)⟩ (v := ?_) hS0 ?_ ?_
                rotate_left
                · intro X ⟨x0, x1, x2, x3, x4, x5⟩; go_simp; try with_reducible rfl
                simp only [Act.put, List.setIfInBounds_toArray, List.set_cons_zero, List.set_cons_succ, Array.toArray_toList]
                refine tkH 8 ⟨some 54, .load 27 (.tmp 53), 27, "ref.go:279", #[⟨7, .data⟩, ⟨3, .guard⟩], some (3, false)⟩ (v := ?_) hS0 ?_ ?_
                rotate_left
                · intro X ⟨x0, x1, x2, x3, x4, x5⟩; go_simp; try with_reducible rfl
                simp only [Act.put, List.setIfInBounds_toArray, List.set_cons_zero, List.set_cons_succ, Array.toArray_toList]
                refine tkH 10 ⟨some 56, .load 26 (.tmp 2), 26, "ref.go:279", #[⟨3, .guard⟩], some (3, false)⟩ (v := ?_) hS0 ?_ ?_
                rotate_left
                · intro X ⟨x0, x1, x2, x3, x4, x5⟩; go_simp; try with_reducible rfl
                simp only [Act.put, List.setIfInBounds_toArray, List.set_cons_zero, List.set_cons_succ, Array.toArray_toList]
                refine tkH 11 ⟨some 57, .move (.tmp 10), 27, "ref.go:279", #[⟨3, .guard⟩], some (3, false)⟩ (v := ?_) hS0 ?_ ?_
                rotate_left
                · intro X ⟨x0, x1, x2, x3, x4, x5⟩; go_simp; try with_reducible rfl
                simp only [Act.put, List.setIfInBounds_toArray, List.set_cons_zero, List.set_cons_succ, Array.toArray_toList]
                refine wpAnyH_ready (rs := [9]) (by kernel_rfl) (by simp) (AllReadyH.cons (o := ⟨some 55, .call ⟨.value (.func 41), #[.tmp 50, .tmp 54], #[26, 27]⟩, 3, "ref.go:279", #[⟨4, .data⟩, ⟨8, .data⟩, ⟨3, .chain⟩, ⟨3, .guard⟩], some (3, false)⟩) rfl (fun K hK => ?_) AllReadyH.nil)
                go_simp
                refine HSX.out.mono ?_
                rintro e x1 ⟨rfl, hb1⟩
                go_wp2_with fail
                refine hK.out _ _ (⟨cell_later hb1 hcu, cell_later hb1 e0, cell_later hb1 e1, cell_later hb1 e2, cell_later hb1 e3, cell_later hb1 e4⟩) (fun hS1 => ?_)
                clear hS0 hK K
                refine wpAnyH_ready (rs := [12]) (by kernel_rfl) (by simp) (AllReadyH.cons (o := ⟨some 58, .call ⟨.value (.func 41), #[.tmp 56, .tmp 57], #[26, 27]⟩, 3, "ref.go:279", #[⟨10, .data⟩, ⟨11, .data⟩, ⟨9, .chain⟩, ⟨3, .guard⟩], some (3, false)⟩) rfl (fun K hK => ?_) AllReadyH.nil)
                go_simp
                refine (HSB.out x1 (HB4.out.drew.trans (hb1.mono HB4.out.drew.size)) (((Below.refl _ wr).drew).trans (hb1.mono (Nat.le_refl _)))).mono ?_
                rintro e x2 ⟨rfl, hb2⟩
                go_wp2_with fail
                refine hK.out _ _ (⟨cell_later hb2 (cell_later hb1 hcu), cell_later hb2 (cell_later hb1 e0), cell_later hb2 (cell_later hb1 e1), cell_later hb2 (cell_later hb1 e2), cell_later hb2 (cell_later hb1 e3), cell_later hb2 (cell_later hb1 e4)⟩) (fun hS2 => ?_)
                clear hS1 hK K
                refine tkH 13 ⟨some 59, .binOp .gtr 3 (.tmp 55) (.tmp 58) 3, 4, "ref.go:279", #[⟨9, .data⟩, ⟨12, .data⟩, ⟨3, .guard⟩], some (3, false)⟩ (v := ?_) hS2 ?_ ?_
                rotate_left
                · intro X ⟨x0, x1, x2, x3, x4, x5⟩; go_simp; try with_reducible rfl
                simp only [Act.put, List.setIfInBounds_toArray, List.set_cons_zero, List.set_cons_succ, Array.toArray_toList]
                refine tkH 14 ⟨some 60, .pick (.tmp 49) (.const (.bool true)) (.tmp 59), 4, "ref.go:279", #[⟨3, .data⟩, ⟨13, .data⟩], none⟩ (v := ?_) hS2 ?_ ?_
                rotate_left
                · intro X ⟨x0, x1, x2, x3, x4, x5⟩; go_simp; try with_reducible rfl
                simp only [Act.put, List.setIfInBounds_toArray, List.set_cons_zero, List.set_cons_succ, Array.toArray_toList]
                refine tkH 15 ⟨some 61, .move (.tmp 60), 4, "ref.go:279", #[⟨14, .data⟩, ⟨12, .chain⟩], none⟩ (v := ?_) hS2 ?_ ?_
                rotate_left
                · intro X ⟨x0, x1, x2, x3, x4, x5⟩; go_simp; try with_reducible rfl
                simp only [Act.put, List.setIfInBounds_toArray, List.set_cons_zero, List.set_cons_succ, Array.toArray_toList]
                refine tkH 16 ⟨some 62, .load 26 (.tmp 2), 26, "ref.go:279", #[⟨15, .guard⟩], some (15, true)⟩ (v := ?_) hS2 ?_ ?_
                rotate_left
                · intro X ⟨x0, x1, x2, x3, x4, x5⟩; go_simp; try with_reducible rfl
                simp only [Act.put, List.setIfInBounds_toArray, List.set_cons_zero, List.set_cons_succ, Array.toArray_toList]
                refine tkH 17 ⟨some 63, .move (.tmp 1), 27, "ref.go:279", #[⟨15, .guard⟩], some (15, true)⟩ (v := ?_) hS2 ?_ ?_
                rotate_left
                · intro X ⟨x0, x1, x2, x3, x4, x5⟩; go_simp; try with_reducible rfl
                simp only [Act.put, List.setIfInBounds_toArray, List.set_cons_zero, List.set_cons_succ, Array.toArray_toList]
                refine tkH 18 ⟨some 64, .move (.tmp 9), 134, "ref.go:279", #[⟨15, .guard⟩], some (15, true)⟩ (v := ?_) hS2 ?_ ?_
                rotate_left
                · intro X ⟨x0, x1, x2, x3, x4, x5⟩; go_simp; try with_reducible rfl
                simp only [Act.put, List.setIfInBounds_toArray, List.set_cons_zero, List.set_cons_succ, Array.toArray_toList]
                refine tkH 19 ⟨some 65, .move (.tmp 11), 3, "ref.go:279", #[⟨15, .guard⟩], some (15, true)⟩ (v := ?_) hS2 ?_ ?_
                rotate_left
                · intro X ⟨x0, x1, x2, x3, x4, x5⟩; go_simp; try with_reducible rfl
                simp only [Act.put, List.setIfInBounds_toArray, List.set_cons_zero, List.set_cons_succ, Array.toArray_toList]
                refine tkH 20 ⟨some 66, .indexAddr 134 (.tmp 64) (.tmp 65), 0, "ref.go:279", #[⟨18, .data⟩, ⟨19, .data⟩, ⟨15, .guard⟩], some (15, true)⟩ (v := ?_) hS2 ?_ ?_
                rotate_left
                · intro X ⟨x0, x1, x2, x3, x4, x5⟩; go_simp; try with_reducible rfl
                simp only [Act.put, List.setIfInBounds_toArray, List.set_cons_zero, List.set_cons_succ, Array.toArray_toList]
                refine tkH 21 ⟨some 67, .load 27 (.tmp 66), 27, "ref.go:279", #[⟨20, .data⟩, ⟨15, .guard⟩], some (15, true)⟩ (v := ?_) hS2 ?_ ?_
                rotate_left
                · intro X ⟨x0, x1, x2, x3, x4, x5⟩; go_simp; try with_reducible rfl
                simp only [Act.put, List.setIfInBounds_toArray, List.set_cons_zero, List.set_cons_succ, Array.toArray_toList]
                refine tkH 22 ⟨some 68, .build 29 #[(0, .tmp 63), (1, .tmp 67)], 29, "ref.go:279", #[⟨17, .data⟩, ⟨21, .data⟩, ⟨15, .guard⟩], some (15, true)⟩ (v := ?_) hS2 ?_ ?_
                rotate_left
                · intro X ⟨x0, x1, x2, x3, x4, x5⟩; go_simp; try with_reducible rfl
                simp only [Act.put, List.setIfInBounds_toArray, List.set_cons_zero, List.set_cons_succ, Array.toArray_toList]
                refine wpAnyH_ready (rs := [23]) (by kernel_rfl) (by simp) (AllReadyH.cons (o := ⟨some 69, .call ⟨.value (.func 52), #[.tmp 62, .tmp 68], #[26, 29]⟩, 27, "ref.go:279", #[⟨16, .data⟩, ⟨22, .data⟩, ⟨15, .chain⟩, ⟨15, .guard⟩], some (15, true)⟩) rfl (fun K hK => ?_) AllReadyH.nil)
                go_simp
                refine (HDK.out x2 ((HB4.out.drew.trans (hb1.mono (HB4.out.drew).size)).trans (hb2.mono ((HB4.out.drew.trans (hb1.mono (HB4.out.drew).size))).size)) ((((Below.refl wr.heap.size wr).drew).trans (hb1.mono (((Below.refl wr.heap.size wr).drew)).size)).trans (hb2.mono ((((Below.refl wr.heap.size wr).drew).trans (hb1.mono (((Below.refl wr.heap.size wr).drew)).size))).size)) true HP.out).mono ?_
                rintro e w4 ⟨A4, n4, k4, rfl, f1, f2, f3, hb4⟩
                go_wp2_with fail
                refine hK.out _ _ (⟨cell_later hb4 (cell_later hb2 (cell_later hb1 hcu)), cell_later hb4 (cell_later hb2 (cell_later hb1 e0)), cell_later hb4 (cell_later hb2 (cell_later hb1 e1)), cell_later hb4 (cell_later hb2 (cell_later hb1 e2)), cell_later hb4 (cell_later hb2 (cell_later hb1 e3)), cell_later hb4 (cell_later hb2 (cell_later hb1 e4))⟩) (fun hS3 => ?_)
                clear hS2 hK K
                refine tkH 24 ⟨some 70, .call ⟨.builtin .len, #[.tmp 69], #[27]⟩, 3, "ref.go:279", #[⟨23, .data⟩, ⟨15, .guard⟩], some (15, true)⟩ (v := ?_) hS3 ?_ ?_
                rotate_left
                · intro X ⟨x0, x1, x2, x3, x4, x5⟩; go_simp; try with_reducible rfl
                simp only [Act.put, List.setIfInBounds_toArray, List.set_cons_zero, List.set_cons_succ, Array.toArray_toList]
                refine tkH 25 ⟨some 71, .binOp .eql 3 (.tmp 70) (.const (.int .i64 0)) 3, 4, "ref.go:279", #[⟨24, .data⟩, ⟨15, .guard⟩], some (15, true)⟩ (v := ?_) hS3 ?_ ?_
                rotate_left
                · intro X ⟨x0, x1, x2, x3, x4, x5⟩; go_simp; try with_reducible rfl
                simp only [Act.put, List.setIfInBounds_toArray, List.set_cons_zero, List.set_cons_succ, Array.toArray_toList]
                refine tkH 26 ⟨some 72, .pick (.tmp 61) (.tmp 71) (.const (.bool false)), 4, "ref.go:279", #[⟨15, .data⟩, ⟨25, .data⟩], none⟩ (v := ?_) hS3 ?_ ?_
                rotate_left
                · intro X ⟨x0, x1, x2, x3, x4, x5⟩; go_simp; try with_reducible rfl
                simp only [Act.put, List.setIfInBounds_toArray, List.set_cons_zero, List.set_cons_succ, Array.toArray_toList]
                refine wpAnyH_done (by kernel_rfl) ?_ _
                clear hS3
                have hcu9 := (cell_later hb4 (cell_later hb2 (cell_later hb1 hcu)))
                have HFX := Lib.hid ((((HBW.out.drew.trans (hb1.mono (HBW.out.drew).size)).trans (hb2.mono ((HBW.out.drew.trans (hb1.mono (HBW.out.drew).size))).size)).trans (hb4.mono (((HBW.out.drew.trans (hb1.mono (HBW.out.drew).size)).trans (hb2.mono ((HBW.out.drew.trans (hb1.mono (HBW.out.drew).size))).size))).size)))
                have HFB := Lib.hid ((((HIU.out.drew.keep hb1 (Nat.le_refl _)).keep hb2 (Nat.le_refl _)).keep hb4 (Nat.le_refl _)))
                clear hcu e0 e1 e2 e3 e4 hb1 hb2 hb4
                go_wp2_with fail
                go_roundw
                case rel => exact ⟨j + 1, by omega, by go_num, _, _, (by rw [HE.out]; first | done | rfl), by rw [HE.out]; exact HFB.out, HFX.out⟩
                case measure => simp [intOf]; omega
              | false =>
                have HE := Lib.hid (HST.out true false hc9 hp)
                simp only [Bool.true_and, Bool.and_true, Bool.and_false, if_true, Bool.false_eq_true, if_false] at HE
                have HP := Lib.hid hp
                clear hp HST
                go_wp2_with fail
                refine wp_region_held_drew (S := fun X => X.cell? ⟨b', o' + j, none⟩ = some (.slice Ax x.length cx) ∧ X.cell? ⟨Bs, 0, none⟩ = some (.int .i64 s.cap) ∧ X.cell? ⟨Bs, 1, none⟩ = some (.int .i64 s.can) ∧ X.cell? ⟨Bs, 2, none⟩ = some (.int .i64 s.sl) ∧ X.cell? ⟨Bs, 3, none⟩ = some (.int .i64 s.sh) ∧ X.cell? ⟨Bs, 4, none⟩ = some (.slice A s.ns.length cp)) (by kernel_rfl) (⟨hcu, e0, e1, e2, e3, e4⟩) (fun hS0 => ?_)
                refine tkH 0 ⟨some 46, .move (.tmp 10), 27, "ref.go:279", #[], none⟩ (v := ?_) hS0 ?_ ?_
                rotate_left
                · intro X ⟨x0, x1, x2, x3, x4, x5⟩; go_simp; try with_reducible rfl
                simp only [Act.put, List.setIfInBounds_toArray, List.set_cons_zero, List.set_cons_succ, Array.toArray_toList]
                refine tkH 1 ⟨some 47, .call ⟨.builtin .len, #[.tmp 46], #[27]⟩, 3, "ref.go:279", #[⟨0, .data⟩], none⟩ (v := ?_) hS0 ?_ ?_
                rotate_left
                · intro X ⟨x0, x1, x2, x3, x4, x5⟩; go_simp; try with_reducible rfl
                simp only [Act.put, List.setIfInBounds_toArray, List.set_cons_zero, List.set_cons_succ, Array.toArray_toList]
                refine tkH 2 ⟨some 48, .binOp .eql 3 (.tmp 47) (.const (.int .i64 0)) 3, 4, "ref.go:279", #[⟨1, .data⟩], none⟩ (v := ?_) hS0 ?_ ?_
                rotate_left
                · intro X ⟨x0, x1, x2, x3, x4, x5⟩; go_simp; try with_reducible rfl
                simp only [Act.put, List.setIfInBounds_toArray, List.set_cons_zero, List.set_cons_succ, Array.toArray_toList]
                refine tkH 3 ⟨some 49, .move (.tmp 48), 4, "ref.go:279", #[⟨2, .data⟩], none⟩ (v := ?_) hS0 ?_ ?_
                rotate_left
                · intro X ⟨x0, x1, x2, x3, x4, x5⟩; go_simp; try with_reducible rfl
                simp only [Act.put, List.setIfInBounds_toArray, List.set_cons_zero, List.set_cons_succ, Array.toArray_toList]
                refine tkH 4 ⟨some 50, .load 26 (.tmp 2), 26, "ref.go:279", #[⟨3, .guard⟩], some (3, false)⟩ (v := ?_) hS0 ?_ ?_
                rotate_left
                · intro X ⟨x0, x1, x2, x3, x4, x5⟩; go_simp; try with_reducible rfl
                simp only [Act.put, List.setIfInBounds_toArray, List.set_cons_zero, List.set_cons_succ, Array.toArray_toList]
                refine tkH 5 ⟨some 51, .move (.tmp 9), 134, "ref.go:279", #[⟨3, .guard⟩], some (3, false)⟩ (v := ?_) hS0 ?_ ?_
                rotate_left
                · intro X ⟨x0, x1, x2, x3, x4, x5⟩; go_simp; try with_reducible rfl
                simp only [Act.put, List.setIfInBounds_toArray, List.set_cons_zero, List.set_cons_succ, Array.toArray_toList]
                refine tkH 6 ⟨some 52, .move (.tmp 11), 3, "ref.go:279", #[⟨3, .guard⟩], some (3, false)⟩ (v := ?_) hS0 ?_ ?_
                rotate_left
                · intro X ⟨x0, x1, x2, x3, x4, x5⟩; go_simp; try with_reducible rfl
                simp only [Act.put, List.setIfInBounds_toArray, List.set_cons_zero, List.set_cons_succ, Array.toArray_toList]
                refine tkH 7 ⟨some 53, .indexAddr 134 (.tmp 51) (.tmp 52), 0, "ref.go:279", #[⟨5, .data⟩, ⟨6, .data⟩, ⟨3, .guard⟩], some (3, false)⟩ (v := ?_) hS0 ?_ ?_
                rotate_left
                · intro X ⟨x0, x1, x2, x3, x4, x5⟩; go_simp; try with_reducible rfl
                simp only [Act.put, List.setIfInBounds_toArray, List.set_cons_zero, List.set_cons_succ, Array.toArray_toList]
                refine tkH 8 ⟨some 54, .load 27 (.tmp 53), 27, "ref.go:279", #[⟨7, .data⟩, ⟨3, .guard⟩], some (3, false)⟩ (v := ?_) hS0 ?_ ?_
                rotate_left
                · intro X ⟨x0, x1, x2, x3, x4, x5⟩; go_simp; try with_reducible rfl
                simp only [Act.put, List.setIfInBounds_toArray, List.set_cons_zero, List.set_cons_succ, Array.toArray_toList]
                refine tkH 10 ⟨some 56, .load 26 (.tmp 2), 26, "ref.go:279", #[⟨3, .guard⟩], some (3, false)⟩ (v := ?_) hS0 ?_ ?_
                rotate_left
                · intro X ⟨x0, x1, x2, x3, x4, x5⟩; go_simp; try with_reducible rfl
                simp only [Act.put, List.setIfInBounds_toArray, List.set_cons_zero, List.set_cons_succ, Array.toArray_toList]
                refine tkH 11 ⟨some 57, .move (.tmp 10), 27, "ref.go:279", #[⟨3, .guard⟩], some (3, false)⟩ (v := ?_) hS0 ?_ ?_
                rotate_left
                · intro X ⟨x0, x1, x2, x3, x4, x5⟩; go_simp; try with_reducible rfl
                simp only [Act.put, List.setIfInBounds_toArray, List.set_cons_zero, List.set_cons_succ, Array.toArray_toList]
                refine wpAnyH_ready (rs := [9]) (by kernel_rfl) (by simp) (AllReadyH.cons (o := ⟨some 55, .call ⟨.value (.func 41), #[.tmp 50, .tmp 54], #[26, 27]⟩, 3, "ref.go:279", #[⟨4, .data⟩, ⟨8, .data⟩, ⟨3, .chain⟩, ⟨3, .guard⟩], some (3, false)⟩) rfl (fun K hK => ?_) AllReadyH.nil)
                go_simp
                refine HSX.out.mono ?_
                rintro e x1 ⟨rfl, hb1⟩
                go_wp2_with fail
                refine hK.out _ _ (⟨cell_later hb1 hcu, cell_later hb1 e0, cell_later hb1 e1, cell_later hb1 e2, cell_later hb1 e3, cell_later hb1 e4⟩) (fun hS1 => ?_)
                clear hS0 hK K
                refine wpAnyH_ready (rs := [12]) (by kernel_rfl) (by simp) (AllReadyH.cons (o := ⟨some 58, .call ⟨.value (.func 41), #[.tmp 56, .tmp 57], #[26, 27]⟩, 3, "ref.go:279", #[⟨10, .data⟩, ⟨11, .data⟩, ⟨9, .chain⟩, ⟨3, .guard⟩], some (3, false)⟩) rfl (fun K hK => ?_) AllReadyH.nil)
                go_simp
                refine (HSB.out x1 (HB4.out.drew.trans (hb1.mono HB4.out.drew.size)) (((Below.refl _ wr).drew).trans (hb1.mono (Nat.le_refl _)))).mono ?_
                rintro e x2 ⟨rfl, hb2⟩
                go_wp2_with fail
                refine hK.out _ _ (⟨cell_later hb2 (cell_later hb1 hcu), cell_later hb2 (cell_later hb1 e0), cell_later hb2 (cell_later hb1 e1), cell_later hb2 (cell_later hb1 e2), cell_later hb2 (cell_later hb1 e3), cell_later hb2 (cell_later hb1 e4)⟩) (fun hS2 => ?_)
                clear hS1 hK K
                refine tkH 13 ⟨some 59, .binOp .gtr 3 (.tmp 55) (.tmp 58) 3, 4, "ref.go:279", #[⟨9, .data⟩, ⟨12, .data⟩, ⟨3, .guard⟩], some (3, false)⟩ (v := ?_) hS2 ?_ ?_
                rotate_left
                · intro X ⟨x0, x1, x2, x3, x4, x5⟩; go_simp; try with_reducible rfl
                simp only [Act.put, List.setIfInBounds_toArray, List.set_cons_zero, List.set_cons_succ, Array.toArray_toList]
                refine tkH 14 ⟨some 60, .pick (.tmp 49) (.const (.bool true)) (.tmp 59), 4, "ref.go:279", #[⟨3, .data⟩, ⟨13, .data⟩], none⟩ (v := ?_) hS2 ?_ ?_
                rotate_left
                · intro X ⟨x0, x1, x2, x3, x4, x5⟩; go_simp; try with_reducible rfl
                simp only [Act.put, List.setIfInBounds_toArray, List.set_cons_zero, List.set_cons_succ, Array.toArray_toList]
                refine tkH 15 ⟨some 61, .move (.tmp 60), 4, "ref.go:279", #[⟨14, .data⟩, ⟨12, .chain⟩], none⟩ (v := ?_) hS2 ?_ ?_
                rotate_left
                · intro X ⟨x0, x1, x2, x3, x4, x5⟩; go_simp; try with_reducible rfl
                simp only [Act.put, List.setIfInBounds_toArray, List.set_cons_zero, List.set_cons_succ, Array.toArray_toList]
                refine tkH 16 ⟨some 62, .load 26 (.tmp 2), 26, "ref.go:279", #[⟨15, .guard⟩], some (15, true)⟩ (v := ?_) hS2 ?_ ?_
                rotate_left
                · intro X ⟨x0, x1, x2, x3, x4, x5⟩; go_simp; try with_reducible rfl
                simp only [Act.put, List.setIfInBounds_toArray, List.set_cons_zero, List.set_cons_succ, Array.toArray_toList]
                refine tkH 17 ⟨some 63, .move (.tmp 1), 27, "ref.go:279", #[⟨15, .guard⟩], some (15, true)⟩ (v := ?_) hS2 ?_ ?_
                rotate_left
                · intro X ⟨x0, x1, x2, x3, x4, x5⟩; go_simp; try with_reducible rfl
                simp only [Act.put, List.setIfInBounds_toArray, List.set_cons_zero, List.set_cons_succ, Array.toArray_toList]
                refine tkH 18 ⟨some 64, .move (.tmp 9), 134, "ref.go:279", #[⟨15, .guard⟩], some (15, true)⟩ (v := ?_) hS2 ?_ ?_
                rotate_left
                · intro X ⟨x0, x1, x2, x3, x4, x5⟩; go_simp; try with_reducible rfl
                simp only [Act.put, List.setIfInBounds_toArray, List.set_cons_zero, List.set_cons_succ, Array.toArray_toList]
                refine tkH 19 ⟨some 65, .move (.tmp 11), 3, "ref.go:279", #[⟨15, .guard⟩], some (15, true)⟩ (v := ?_) hS2 ?_ ?_
                rotate_left
                · intro X ⟨x0, x1, x2, x3, x4, x5⟩; go_simp; try with_reducible rfl
                simp only [Act.put, List.setIfInBounds_toArray, List.set_cons_zero, List.set_cons_succ, Array.toArray_toList]
                refine tkH 20 ⟨some 66, .indexAddr 134 (.tmp 64) (.tmp 65), 0, "ref.go:279", #[⟨18, .data⟩, ⟨19, .data⟩, ⟨15, .guard⟩], some (15, true)⟩ (v := ?_) hS2 ?_ ?_
                rotate_left
                · intro X ⟨x0, x1, x2, x3, x4, x5⟩; go_simp; try with_reducible rfl
                simp only [Act.put, List.setIfInBounds_toArray, List.set_cons_zero, List.set_cons_succ, Array.toArray_toList]
                refine tkH 21 ⟨some 67, .load 27 (.tmp 66), 27, "ref.go:279", #[⟨20, .data⟩, ⟨15, .guard⟩], some (15, true)⟩ (v := ?_) hS2 ?_ ?_
                rotate_left
                · intro X ⟨x0, x1, x2, x3, x4, x5⟩; go_simp; try with_reducible rfl
                simp only [Act.put, List.setIfInBounds_toArray, List.set_cons_zero, List.set_cons_succ, Array.toArray_toList]
                refine tkH 22 ⟨some 68, .build 29 #[(0, .tmp 63), (1, .tmp 67)], 29, "ref.go:279", #[⟨17, .data⟩, ⟨21, .data⟩, ⟨15, .guard⟩], some (15, true)⟩ (v := ?_) hS2 ?_ ?_
                rotate_left
                · intro X ⟨x0, x1, x2, x3, x4, x5⟩; go_simp; try with_reducible rfl
                simp only [Act.put, List.setIfInBounds_toArray, List.set_cons_zero, List.set_cons_succ, Array.toArray_toList]
                refine wpAnyH_ready (rs := [23]) (by kernel_rfl) (by simp) (AllReadyH.cons (o := ⟨some 69, .call ⟨.value (.func 52), #[.tmp 62, .tmp 68], #[26, 29]⟩, 27, "ref.go:279", #[⟨16, .data⟩, ⟨22, .data⟩, ⟨15, .chain⟩, ⟨15, .guard⟩], some (15, true)⟩) rfl (fun K hK => ?_) AllReadyH.nil)
                go_simp
                refine (HDK.out x2 ((HB4.out.drew.trans (hb1.mono (HB4.out.drew).size)).trans (hb2.mono ((HB4.out.drew.trans (hb1.mono (HB4.out.drew).size))).size)) ((((Below.refl wr.heap.size wr).drew).trans (hb1.mono (((Below.refl wr.heap.size wr).drew)).size)).trans (hb2.mono ((((Below.refl wr.heap.size wr).drew).trans (hb1.mono (((Below.refl wr.heap.size wr).drew)).size))).size)) false HP.out).mono ?_
                rintro e w4 ⟨A4, n4, k4, rfl, f1, f2, f3, hb4⟩
                go_wp2_with fail
                refine hK.out _ _ (⟨cell_later hb4 (cell_later hb2 (cell_later hb1 hcu)), cell_later hb4 (cell_later hb2 (cell_later hb1 e0)), cell_later hb4 (cell_later hb2 (cell_later hb1 e1)), cell_later hb4 (cell_later hb2 (cell_later hb1 e2)), cell_later hb4 (cell_later hb2 (cell_later hb1 e3)), cell_later hb4 (cell_later hb2 (cell_later hb1 e4))⟩) (fun hS3 => ?_)
                clear hS2 hK K
                refine tkH 24 ⟨some 70, .call ⟨.builtin .len, #[.tmp 69], #[27]⟩, 3, "ref.go:279", #[⟨23, .data⟩, ⟨15, .guard⟩], some (15, true)⟩ (v := ?_) hS3 ?_ ?_
                rotate_left
                · intro X ⟨x0, x1, x2, x3, x4, x5⟩; go_simp; try with_reducible rfl
                simp only [Act.put, List.setIfInBounds_toArray, List.set_cons_zero, List.set_cons_succ, Array.toArray_toList]
                refine tkH 25 ⟨some 71, .binOp .eql 3 (.tmp 70) (.const (.int .i64 0)) 3, 4, "ref.go:279", #[⟨24, .data⟩, ⟨15, .guard⟩], some (15, true)⟩ (v := ?_) hS3 ?_ ?_
                rotate_left
                · intro X ⟨x0, x1, x2, x3, x4, x5⟩; go_simp; try with_reducible rfl
                simp only [Act.put, List.setIfInBounds_toArray, List.set_cons_zero, List.set_cons_succ, Array.toArray_toList]
                refine tkH 26 ⟨some 72, .pick (.tmp 61) (.tmp 71) (.const (.bool false)), 4, "ref.go:279", #[⟨15, .data⟩, ⟨25, .data⟩], none⟩ (v := ?_) hS3 ?_ ?_
                rotate_left
                · intro X ⟨x0, x1, x2, x3, x4, x5⟩; go_simp; try with_reducible rfl
                simp only [Act.put, List.setIfInBounds_toArray, List.set_cons_zero, List.set_cons_succ, Array.toArray_toList]
                refine wpAnyH_done (by kernel_rfl) ?_ _
                clear hS3
                have HFX := Lib.hid ((((HBW.out.drew.trans (hb1.mono (HBW.out.drew).size)).trans (hb2.mono ((HBW.out.drew.trans (hb1.mono (HBW.out.drew).size))).size)).trans (hb4.mono (((HBW.out.drew.trans (hb1.mono (HBW.out.drew).size)).trans (hb2.mono ((HBW.out.drew.trans (hb1.mono (HBW.out.drew).size))).size))).size)))
                have HFB := Lib.hid ((((HBI.out.drew.keep hb1 (Nat.le_refl _)).keep hb2 (Nat.le_refl _)).keep hb4 (Nat.le_refl _)))
                clear hcu e0 e1 e2 e3 e4 hb1 hb2 hb4
                go_wp2_with fail
                go_roundw
                case rel => exact ⟨j + 1, by omega, by go_num, _, _, (by rw [HE.out]; first | done | rfl), by rw [HE.out]; exact HFB.out, HFX.out⟩
                case measure => simp [intOf]; omega
        · have hlt' : decide ((j : Int) < (ls.length : Int)) = false := by simpa using hlt
          obtain rfl : j = ls.length := by omega
          rw [HRD.out] at hB
          have HBX := Lib.hid hB
          have HBI := Lib.hid hbi
          have HBW := Lib.hid (HB3.out.trans (hbe.mono HB3.out.size))
          clear hB hbi hbe hBm
          cases B with
          | nil =>
            simp only [List.length_nil] at ⊢
            go_wp2_with fail
            go_ret2
            exact ⟨_, _, by rw [HBX.out]; rfl, by rw [HBX.out]; exact HBI.out, HBW.out⟩
          | cons y ys =>
            have h9 : decide ((((y :: ys).length : Nat) : Int) > 0) = true := by simp
            have h8 : decide (0 < (((y :: ys).length : Nat) : Int)) = true := by simp
            have h7 : decide (0 < (y :: ys).length) = true := by simp
            have H7 := Lib.hid h7
            obtain ⟨C, hC⟩ : ∃ C, y :: ys = C := ⟨_, rfl⟩
            rw [hC] at h9 h8 h7 H7 HBI HBX ⊢
            clear hC
            go_wp2_with fail
            go_ret2
            exact ⟨_, _, (by rw [HBX.out, H7.out]; first | done | rfl), by rw [HBX.out]; exact HBI.out, HBW.out⟩
end Go.Proofs.Ytefhdcecbmgljaa
namespace Go.Proofs.Ytefhdcecbmgljaa
open Go.RowKit Go.WalkArith

theorem wicks_bd {s : St} {l : List Int} (h : StOk s) (hw : wicksB s l = true) : l.length = s.ns.length ∧ ∀ i, i < s.ns.length → 0 ≤ atL l i ∧ atL l i ≤ 4 := by
  obtain ⟨h1, h2⟩ := wicksB_true.1 hw
  exact ⟨h1, fun i hi => by have := h2 i hi; have := h.nt i hi; omega⟩
theorem trim_bad (s : St) (A : Option Addr) (cp : Nat) (Ak : Option Addr) (ck : Nat) (k : List Int) (q : Int) (w : World) (hn : s.ns.length ≤ 1000000) (hkl : k.length ≤ 1000000) (hA : NtsAt w A s.ns) (hk : IntsAt w (.slice Ak k.length ck) k) (hq : (faultS s = q ∧ q ≠ 0) ∨ (faultS s = 0 ∧ cansB s k = false ∧ q = 2)) :
    Calls Try.prog 38 #[.agg #[.int .i64 s.cap, .int .i64 s.can, .int .i64 s.sl, .int .i64 s.sh, .slice A s.ns.length cp], .slice Ak k.length ck] w fun e w' => e = .returned (.tuple #[.slice none 0 0, .int .i64 0, .int .i64 q]) ∧ Below w.heap.size w w' :=
  (trim_any s A cp Ak ck k w hn hkl hA hk).mono fun e w' ⟨h1, h2⟩ => by
    rcases h2 with ⟨h3, he⟩ | ⟨h3, h4, he⟩ | ⟨h3, h4, _⟩ | ⟨h3, h4, _⟩
    · rcases hq with ⟨rfl, _⟩ | ⟨h5, _⟩
      · exact ⟨he, h1⟩
      · exact absurd h5 h3
    · rcases hq with ⟨h5, h6⟩ | ⟨_, _, rfl⟩
      · exact absurd (h5.symm.trans h3) h6
      · exact ⟨he, h1⟩
    · rcases hq with ⟨h5, h6⟩ | ⟨_, h5, _⟩
      · exact absurd (h5.symm.trans h3) h6
      · rw [h4] at h5; cases h5
    · rcases hq with ⟨h5, h6⟩ | ⟨_, h5, _⟩
      · exact absurd (h5.symm.trans h3) h6
      · rw [h4] at h5; cases h5
set_option maxRecDepth 100000 in
set_option maxHeartbeats 8000000 in
theorem trims_walk (s : St) (A : Option Addr) (cp : Nat) (Ak : Option Addr) (ck : Nat) (k : List Int) (w : World) (hA : NtsAt w A s.ns) (hk : IntsAt w (.slice Ak k.length ck) k) (n2 : NilOk Ak ck) :
    Calls Try.prog 6 #[.agg #[.int .i64 s.cap, .int .i64 s.can, .int .i64 s.sl, .int .i64 s.sh, .slice A s.ns.length cp], .slice Ak k.length ck] w fun e w' => e = .returned (.bool true) ∧ Below w.heap.size w w' := by
  have HA := Lib.hid hA
  have HK := Lib.hid hk
  clear hA hk
  have hB0 : Below w.heap.size w (w.alloc (.cells #[.int .i64 s.cap, .int .i64 s.can, .int .i64 s.sl, .int .i64 s.sh, .slice A s.ns.length cp] 26)) := (Below.refl _ _).alloc (Nat.le_refl _) _
  have hn0 : (w.alloc (.cells #[.int .i64 s.cap, .int .i64 s.can, .int .i64 s.sl, .int .i64 s.sh, .slice A s.ns.length cp] 26)).heap[w.heap.size]? = some (.cells #[.int .i64 s.cap, .int .i64 s.can, .int .i64 s.sl, .int .i64 s.sh, .slice A s.ns.length cp] 26 (0, 0)) := heap_new_at _ _ _ rfl
  have HB1 := Lib.hid hB0
  have NBs1 := Lib.hid hn0
  clear hB0 hn0
  go_enter Try.func6, Try.ntmps6
  go_wp2_with fail
  generalize (w.alloc (.cells #[.int .i64 s.cap, .int .i64 s.can, .int .i64 s.sl, .int .i64 s.sh, .slice A s.ns.length cp] 26)) = w1 at HB1 NBs1 ⊢
  obtain ⟨Bs, hBs⟩ : ∃ Bs, w.heap.size = Bs := ⟨_, rfl⟩
  have oBs : w.heap.size ≤ Bs := by omega
  rw [hBs] at NBs1 ⊢
  clear hBs
  obtain ⟨cBs0_1, cBs1_1, cBs2_1, cBs3_1, cBs4_1⟩ := cells5 NBs1.out
  have hth := Lib.hid (thin_any A Ak none s.ns.length cp k.length ck 0 0 s.cap s.can s.sl s.sh w1)
  by_cases hT : s.ns.length ≤ 9 ∧ k.length ≤ 9
  rotate_left
  · rw [show (decide (s.ns.length ≤ 9) && decide (k.length ≤ 9) && decide (0 ≤ 9)) = false from by simp; omega] at hth
    go_wp2_with fail
    refine (hth.out).mono ?_
    rintro e w2 ⟨rfl, hb⟩
    have HB2 := Lib.hid ((HB1.out).trans (hb.mono (HB1.out).size))
    have NBs2 := Lib.hid ((hb.block Bs (Array.getElem?_eq_some_iff.1 NBs1.out).1).trans NBs1.out)
    clear HB1 NBs1 cBs0_1 cBs1_1 cBs2_1 cBs3_1 cBs4_1  hb hth
    obtain ⟨cBs0_2, cBs1_2, cBs2_2, cBs3_2, cBs4_2⟩ := cells5 NBs2.out
    go_wp2_with fail
    refine (awake_any _).mono ?_
    rintro e w3 ⟨rfl, hb⟩
    have HB3 := Lib.hid ((HB2.out).trans (hb.mono (HB2.out).size))
    have NBs3 := Lib.hid ((hb.block Bs (Array.getElem?_eq_some_iff.1 NBs2.out).1).trans NBs2.out)
    clear HB2 NBs2 cBs0_2 cBs1_2 cBs2_2 cBs3_2 cBs4_2  hb 
    obtain ⟨cBs0_3, cBs1_3, cBs2_3, cBs3_3, cBs4_3⟩ := cells5 NBs3.out
    go_wp2_with fail
    go_ret
    exact ⟨rfl, HB3.out⟩
  · rw [show (decide (s.ns.length ≤ 9) && decide (k.length ≤ 9) && decide (0 ≤ 9)) = true from by simp; omega] at hth
    go_wp2_with fail
    refine (hth.out).mono ?_
    rintro e w2 ⟨rfl, hb⟩
    have HB2 := Lib.hid ((HB1.out).trans (hb.mono (HB1.out).size))
    have NBs2 := Lib.hid ((hb.block Bs (Array.getElem?_eq_some_iff.1 NBs1.out).1).trans NBs1.out)
    clear HB1 NBs1 cBs0_1 cBs1_1 cBs2_1 cBs3_1 cBs4_1  hb hth
    obtain ⟨cBs0_2, cBs1_2, cBs2_2, cBs3_2, cBs4_2⟩ := cells5 NBs2.out
    obtain ⟨hn9, hk9⟩ := hT
    have n9 : s.ns.length ≤ 1000000 := by omega
    have k9 : k.length ≤ 1000000 := by omega
    have hfw := Lib.hid (few_any s A cp 200 w2 n9 (HA.out.keep HB2.out (Nat.le_refl _)))
    cases hf : fewB s 200 with
    | false =>
      rw [hf] at hfw
      clear hf
      go_wp2_with fail
      refine (hfw.out).mono ?_
      rintro e w3 ⟨rfl, hb⟩
      have HB3 := Lib.hid ((HB2.out).trans (hb.mono (HB2.out).size))
      have NBs3 := Lib.hid ((hb.block Bs (Array.getElem?_eq_some_iff.1 NBs2.out).1).trans NBs2.out)
      clear HB2 NBs2 cBs0_2 cBs1_2 cBs2_2 cBs3_2 cBs4_2  hb hfw
      obtain ⟨cBs0_3, cBs1_3, cBs2_3, cBs3_3, cBs4_3⟩ := cells5 NBs3.out
      go_wp2_with fail
      refine (awake_any _).mono ?_
      rintro e w4 ⟨rfl, hb⟩
      have HB4 := Lib.hid ((HB3.out).trans (hb.mono (HB3.out).size))
      have NBs4 := Lib.hid ((hb.block Bs (Array.getElem?_eq_some_iff.1 NBs3.out).1).trans NBs3.out)
      clear HB3 NBs3 cBs0_3 cBs1_3 cBs2_3 cBs3_3 cBs4_3  hb 
      obtain ⟨cBs0_4, cBs1_4, cBs2_4, cBs3_4, cBs4_4⟩ := cells5 NBs4.out
      go_wp2_with fail
      go_ret
      exact ⟨rfl, HB4.out⟩
    | true =>
      rw [hf] at hfw
      clear hf
      go_wp2_with fail
      refine (hfw.out).mono ?_
      rintro e w3 ⟨rfl, hb⟩
      have HB3 := Lib.hid ((HB2.out).trans (hb.mono (HB2.out).size))
      have NBs3 := Lib.hid ((hb.block Bs (Array.getElem?_eq_some_iff.1 NBs2.out).1).trans NBs2.out)
      clear HB2 NBs2 cBs0_2 cBs1_2 cBs2_2 cBs3_2 cBs4_2  hb hfw
      obtain ⟨cBs0_3, cBs1_3, cBs2_3, cBs3_3, cBs4_3⟩ := cells5 NBs3.out
      have HFA := Lib.hid (fun W x1 => lfault_any s A cp W n9 x1)
      by_cases h0 : faultS s = 0
      rotate_left
      · obtain ⟨Q, hQ⟩ : ∃ Q, faultS s = Q := ⟨_, rfl⟩
        have HBD := Lib.hid (fun A2 cp2 A3 c3 W x1 x2 => trim_bad s A2 cp2 A3 c3 k Q W n9 k9 x1 x2 (.inl ⟨hQ, by rw [← hQ]; exact h0⟩))
        rw [hQ] at HFA h0
        have q1 : (Q == 0) = false := by simpa using h0
        have q2 : (Q != 0) = true := by simpa using h0
        have q3 : (Q == Q) = true := by simp
        clear hQ h0
        go_wp2_with fail
        refine (HFA.out w3 (HA.out.keep HB3.out (Nat.le_refl _))).mono ?_
        rintro e w4 ⟨rfl, hb⟩
        have HB4 := Lib.hid ((HB3.out).trans (hb.mono (HB3.out).size))
        have NBs4 := Lib.hid ((hb.block Bs (Array.getElem?_eq_some_iff.1 NBs3.out).1).trans NBs3.out)
        clear HB3 NBs3 cBs0_3 cBs1_3 cBs2_3 cBs3_3 cBs4_3  hb 
        obtain ⟨cBs0_4, cBs1_4, cBs2_4, cBs3_4, cBs4_4⟩ := cells5 NBs4.out
        go_wp2_with fail
        refine (store_conv s A cp w4 (HA.out.keep HB4.out (Nat.le_refl _)) n9).mono ?_
        rintro e w5 ⟨A2, cp2, rfl, hs2, hb⟩
        have HB5 := Lib.hid ((HB4.out).trans (hb.mono (HB4.out).size))
        have NBs5 := Lib.hid ((hb.block Bs (Array.getElem?_eq_some_iff.1 NBs4.out).1).trans NBs4.out)
        have FS5 := Lib.hid hs2
        clear HB4 NBs4 cBs0_4 cBs1_4 cBs2_4 cBs3_4 cBs4_4 hs2 hb 
        obtain ⟨cBs0_5, cBs1_5, cBs2_5, cBs3_5, cBs4_5⟩ := cells5 NBs5.out
        go_wp2_with fail
        refine (list_some Ak ck k w5 n2 (HK.out.keep HB5.out (Nat.le_refl _)) k9).mono ?_
        rintro e w6 ⟨A3, c3, rfl, hl3, hn3, hb⟩
        have HB6 := Lib.hid ((HB5.out).trans (hb.mono (HB5.out).size))
        have NBs6 := Lib.hid ((hb.block Bs (Array.getElem?_eq_some_iff.1 NBs5.out).1).trans NBs5.out)
        have FS6 := Lib.hid ((FS5.out).keep hb (Nat.le_refl _))
        have FL6 := Lib.hid hl3
        clear HB5 NBs5 cBs0_5 cBs1_5 cBs2_5 cBs3_5 cBs4_5 FS5 hl3 hb hn3
        obtain ⟨cBs0_6, cBs1_6, cBs2_6, cBs3_6, cBs4_6⟩ := cells5 NBs6.out
        go_wp2_with fail
        refine (HBD.out A2 cp2 A3 c3 w6 FS6.out FL6.out).mono ?_
        rintro e w7 ⟨rfl, hb⟩
        have HB7 := Lib.hid ((HB6.out).trans (hb.mono (HB6.out).size))
        have NBs7 := Lib.hid ((hb.block Bs (Array.getElem?_eq_some_iff.1 NBs6.out).1).trans NBs6.out)
        have FS7 := Lib.hid ((FS6.out).keep hb (Nat.le_refl _))
        have FL7 := Lib.hid ((FL6.out).keep hb (Nat.le_refl _))
        clear HB6 NBs6 cBs0_6 cBs1_6 cBs2_6 cBs3_6 cBs4_6 FS6 FL6 hb 
        obtain ⟨cBs0_7, cBs1_7, cBs2_7, cBs3_7, cBs4_7⟩ := cells5 NBs7.out
        clear FS7
        clear FL7
        go_wp2_with fail
        refine (HFA.out w7 (HA.out.keep HB7.out (Nat.le_refl _))).mono ?_
        rintro e w8 ⟨rfl, hb⟩
        have HB8 := Lib.hid ((HB7.out).trans (hb.mono (HB7.out).size))
        have NBs8 := Lib.hid ((hb.block Bs (Array.getElem?_eq_some_iff.1 NBs7.out).1).trans NBs7.out)
        clear HB7 NBs7 cBs0_7 cBs1_7 cBs2_7 cBs3_7 cBs4_7  hb 
        obtain ⟨cBs0_8, cBs1_8, cBs2_8, cBs3_8, cBs4_8⟩ := cells5 NBs8.out
        go_wp2_with fail
        refine (awake_any _).mono ?_
        rintro e w9 ⟨rfl, hb⟩
        have HB9 := Lib.hid ((HB8.out).trans (hb.mono (HB8.out).size))
        have NBs9 := Lib.hid ((hb.block Bs (Array.getElem?_eq_some_iff.1 NBs8.out).1).trans NBs8.out)
        clear HB8 NBs8 cBs0_8 cBs1_8 cBs2_8 cBs3_8 cBs4_8  hb 
        obtain ⟨cBs0_9, cBs1_9, cBs2_9, cBs3_9, cBs4_9⟩ := cells5 NBs9.out
        go_wp2_with fail
        go_ret
        exact ⟨rfl, HB9.out⟩
      · rw [h0] at HFA
        have hok := faultS_zero.1 h0
        by_cases hn4 : s.ns.length ≤ 4
        rotate_left
        · have h1 : decide ((s.ns.length : Int) > 4) = true := by simp; omega
          have h2 : decide (4 < (s.ns.length : Int)) = true := by simp; omega
          clear h0 hok
          go_wp2_with fail
          refine (HFA.out w3 (HA.out.keep HB3.out (Nat.le_refl _))).mono ?_
          rintro e w4 ⟨rfl, hb⟩
          have HB4 := Lib.hid ((HB3.out).trans (hb.mono (HB3.out).size))
          have NBs4 := Lib.hid ((hb.block Bs (Array.getElem?_eq_some_iff.1 NBs3.out).1).trans NBs3.out)
          clear HB3 NBs3 cBs0_3 cBs1_3 cBs2_3 cBs3_3 cBs4_3  hb 
          obtain ⟨cBs0_4, cBs1_4, cBs2_4, cBs3_4, cBs4_4⟩ := cells5 NBs4.out
          go_wp2_with fail
          refine (awake_any _).mono ?_
          rintro e w5 ⟨rfl, hb⟩
          have HB5 := Lib.hid ((HB4.out).trans (hb.mono (HB4.out).size))
          have NBs5 := Lib.hid ((hb.block Bs (Array.getElem?_eq_some_iff.1 NBs4.out).1).trans NBs4.out)
          clear HB4 NBs4 cBs0_4 cBs1_4 cBs2_4 cBs3_4 cBs4_4  hb 
          obtain ⟨cBs0_5, cBs1_5, cBs2_5, cBs3_5, cBs4_5⟩ := cells5 NBs5.out
          go_wp2_with fail
          go_ret
          exact ⟨rfl, HB5.out⟩
        · have h1 : decide ((s.ns.length : Int) > 4) = false := by simp; omega
          have h2 : decide (4 < (s.ns.length : Int)) = false := by simp; omega
          cases hw : cansB s k with
          | false =>
            have HBD := Lib.hid (fun A2 cp2 A3 c3 W x1 x2 => trim_bad s A2 cp2 A3 c3 k 2 W n9 k9 x1 x2 (.inr ⟨h0, hw, rfl⟩))
            have HW := Lib.hid hw
            clear hw h0 hok
            go_wp2_with fail
            refine (HFA.out w3 (HA.out.keep HB3.out (Nat.le_refl _))).mono ?_
            rintro e w4 ⟨rfl, hb⟩
            have HB4 := Lib.hid ((HB3.out).trans (hb.mono (HB3.out).size))
            have NBs4 := Lib.hid ((hb.block Bs (Array.getElem?_eq_some_iff.1 NBs3.out).1).trans NBs3.out)
            clear HB3 NBs3 cBs0_3 cBs1_3 cBs2_3 cBs3_3 cBs4_3  hb 
            obtain ⟨cBs0_4, cBs1_4, cBs2_4, cBs3_4, cBs4_4⟩ := cells5 NBs4.out
            go_wp2_with fail
            refine (store_conv s A cp w4 (HA.out.keep HB4.out (Nat.le_refl _)) n9).mono ?_
            rintro e w5 ⟨A2, cp2, rfl, hs2, hb⟩
            have HB5 := Lib.hid ((HB4.out).trans (hb.mono (HB4.out).size))
            have NBs5 := Lib.hid ((hb.block Bs (Array.getElem?_eq_some_iff.1 NBs4.out).1).trans NBs4.out)
            have FS5 := Lib.hid hs2
            clear HB4 NBs4 cBs0_4 cBs1_4 cBs2_4 cBs3_4 cBs4_4 hs2 hb 
            obtain ⟨cBs0_5, cBs1_5, cBs2_5, cBs3_5, cBs4_5⟩ := cells5 NBs5.out
            go_wp2_with fail
            refine (list_some Ak ck k w5 n2 (HK.out.keep HB5.out (Nat.le_refl _)) k9).mono ?_
            rintro e w6 ⟨A3, c3, rfl, hl3, hn3, hb⟩
            have HB6 := Lib.hid ((HB5.out).trans (hb.mono (HB5.out).size))
            have NBs6 := Lib.hid ((hb.block Bs (Array.getElem?_eq_some_iff.1 NBs5.out).1).trans NBs5.out)
            have FS6 := Lib.hid ((FS5.out).keep hb (Nat.le_refl _))
            have FL6 := Lib.hid hl3
            clear HB5 NBs5 cBs0_5 cBs1_5 cBs2_5 cBs3_5 cBs4_5 FS5 hl3 hb hn3
            obtain ⟨cBs0_6, cBs1_6, cBs2_6, cBs3_6, cBs4_6⟩ := cells5 NBs6.out
            go_wp2_with fail
            refine (HBD.out A2 cp2 A3 c3 w6 FS6.out FL6.out).mono ?_
            rintro e w7 ⟨rfl, hb⟩
            have HB7 := Lib.hid ((HB6.out).trans (hb.mono (HB6.out).size))
            have NBs7 := Lib.hid ((hb.block Bs (Array.getElem?_eq_some_iff.1 NBs6.out).1).trans NBs6.out)
            have FS7 := Lib.hid ((FS6.out).keep hb (Nat.le_refl _))
            have FL7 := Lib.hid ((FL6.out).keep hb (Nat.le_refl _))
            clear HB6 NBs6 cBs0_6 cBs1_6 cBs2_6 cBs3_6 cBs4_6 FS6 FL6 hb 
            obtain ⟨cBs0_7, cBs1_7, cBs2_7, cBs3_7, cBs4_7⟩ := cells5 NBs7.out
            clear FS7
            clear FL7
            go_wp2_with fail
            refine (HFA.out w7 (HA.out.keep HB7.out (Nat.le_refl _))).mono ?_
            rintro e w8 ⟨rfl, hb⟩
            have HB8 := Lib.hid ((HB7.out).trans (hb.mono (HB7.out).size))
            have NBs8 := Lib.hid ((hb.block Bs (Array.getElem?_eq_some_iff.1 NBs7.out).1).trans NBs7.out)
            clear HB7 NBs7 cBs0_7 cBs1_7 cBs2_7 cBs3_7 cBs4_7  hb 
            obtain ⟨cBs0_8, cBs1_8, cBs2_8, cBs3_8, cBs4_8⟩ := cells5 NBs8.out
            have hik := Lib.hid (rcans_any s A cp (.slice Ak k.length ck) k w8 n9 k9 (HK.out.keep HB8.out (Nat.le_refl _)))
            rw [HW.out] at hik
            go_wp2_with fail
            refine (hik.out).mono ?_
            rintro e w9 ⟨rfl, hb⟩
            have HB9 := Lib.hid ((HB8.out).trans (hb.mono (HB8.out).size))
            have NBs9 := Lib.hid ((hb.block Bs (Array.getElem?_eq_some_iff.1 NBs8.out).1).trans NBs8.out)
            clear HB8 NBs8 cBs0_8 cBs1_8 cBs2_8 cBs3_8 cBs4_8  hb hik
            obtain ⟨cBs0_9, cBs1_9, cBs2_9, cBs3_9, cBs4_9⟩ := cells5 NBs9.out
            go_wp2_with fail
            refine (awake_any _).mono ?_
            rintro e w10 ⟨rfl, hb⟩
            have HB10 := Lib.hid ((HB9.out).trans (hb.mono (HB9.out).size))
            have NBs10 := Lib.hid ((hb.block Bs (Array.getElem?_eq_some_iff.1 NBs9.out).1).trans NBs9.out)
            clear HB9 NBs9 cBs0_9 cBs1_9 cBs2_9 cBs3_9 cBs4_9  hb 
            obtain ⟨cBs0_10, cBs1_10, cBs2_10, cBs3_10, cBs4_10⟩ := cells5 NBs10.out
            go_wp2_with fail
            go_ret
            exact ⟨rfl, HB10.out⟩
          | true =>
            have HW := Lib.hid hw
            have HOK := Lib.hid hok
            by_cases hch : chp s (jobT s k) s.ns.length 0 s.sl < 524288
            rotate_left
            · have hle : 524288 ≤ chp s (jobT s k) s.ns.length 0 s.sl := by omega
              have HST := Lib.hid (fun A2 cp2 A3 c3 W x1 x2 => trim_stuck s A2 cp2 A3 c3 k W x1 x2 hok hw hle)
              have HRR := Lib.hid (fun W x1 x2 => rtrim_any s A cp Ak ck k W hok hw x1 x2)
              rw [rTrim_no hok hw hle] at HRR
              simp only [List.length_nil, Nat.lt_irrefl, decide_false] at HRR
              clear hle hch h0 hw hok
              go_wp2_with fail
              refine (HFA.out w3 (HA.out.keep HB3.out (Nat.le_refl _))).mono ?_
              rintro e w4 ⟨rfl, hb⟩
              have HB4 := Lib.hid ((HB3.out).trans (hb.mono (HB3.out).size))
              have NBs4 := Lib.hid ((hb.block Bs (Array.getElem?_eq_some_iff.1 NBs3.out).1).trans NBs3.out)
              clear HB3 NBs3 cBs0_3 cBs1_3 cBs2_3 cBs3_3 cBs4_3  hb 
              obtain ⟨cBs0_4, cBs1_4, cBs2_4, cBs3_4, cBs4_4⟩ := cells5 NBs4.out
              go_wp2_with fail
              refine (store_conv s A cp w4 (HA.out.keep HB4.out (Nat.le_refl _)) n9).mono ?_
              rintro e w5 ⟨A2, cp2, rfl, hs2, hb⟩
              have HB5 := Lib.hid ((HB4.out).trans (hb.mono (HB4.out).size))
              have NBs5 := Lib.hid ((hb.block Bs (Array.getElem?_eq_some_iff.1 NBs4.out).1).trans NBs4.out)
              have FS5 := Lib.hid hs2
              clear HB4 NBs4 cBs0_4 cBs1_4 cBs2_4 cBs3_4 cBs4_4 hs2 hb 
              obtain ⟨cBs0_5, cBs1_5, cBs2_5, cBs3_5, cBs4_5⟩ := cells5 NBs5.out
              go_wp2_with fail
              refine (list_some Ak ck k w5 n2 (HK.out.keep HB5.out (Nat.le_refl _)) k9).mono ?_
              rintro e w6 ⟨A3, c3, rfl, hl3, hn3, hb⟩
              have HB6 := Lib.hid ((HB5.out).trans (hb.mono (HB5.out).size))
              have NBs6 := Lib.hid ((hb.block Bs (Array.getElem?_eq_some_iff.1 NBs5.out).1).trans NBs5.out)
              have FS6 := Lib.hid ((FS5.out).keep hb (Nat.le_refl _))
              have FL6 := Lib.hid hl3
              clear HB5 NBs5 cBs0_5 cBs1_5 cBs2_5 cBs3_5 cBs4_5 FS5 hl3 hb hn3
              obtain ⟨cBs0_6, cBs1_6, cBs2_6, cBs3_6, cBs4_6⟩ := cells5 NBs6.out
              go_wp2_with fail
              refine (HST.out A2 cp2 A3 c3 w6 FS6.out FL6.out).mono ?_
              rintro e w7 ⟨rfl, hb⟩
              have HB7 := Lib.hid ((HB6.out).trans (hb.mono (HB6.out).size))
              have NBs7 := Lib.hid ((hb.block Bs (Array.getElem?_eq_some_iff.1 NBs6.out).1).trans NBs6.out)
              have FS7 := Lib.hid ((FS6.out).keep hb (Nat.le_refl _))
              have FL7 := Lib.hid ((FL6.out).keep hb (Nat.le_refl _))
              clear HB6 NBs6 cBs0_6 cBs1_6 cBs2_6 cBs3_6 cBs4_6 FS6 FL6 hb 
              obtain ⟨cBs0_7, cBs1_7, cBs2_7, cBs3_7, cBs4_7⟩ := cells5 NBs7.out
              clear FS7
              clear FL7
              go_wp2_with fail
              refine (HFA.out w7 (HA.out.keep HB7.out (Nat.le_refl _))).mono ?_
              rintro e w8 ⟨rfl, hb⟩
              have HB8 := Lib.hid ((HB7.out).trans (hb.mono (HB7.out).size))
              have NBs8 := Lib.hid ((hb.block Bs (Array.getElem?_eq_some_iff.1 NBs7.out).1).trans NBs7.out)
              clear HB7 NBs7 cBs0_7 cBs1_7 cBs2_7 cBs3_7 cBs4_7  hb 
              obtain ⟨cBs0_8, cBs1_8, cBs2_8, cBs3_8, cBs4_8⟩ := cells5 NBs8.out
              have hik := Lib.hid (rcans_any s A cp (.slice Ak k.length ck) k w8 n9 k9 (HK.out.keep HB8.out (Nat.le_refl _)))
              rw [HW.out] at hik
              go_wp2_with fail
              refine (hik.out).mono ?_
              rintro e w9 ⟨rfl, hb⟩
              have HB9 := Lib.hid ((HB8.out).trans (hb.mono (HB8.out).size))
              have NBs9 := Lib.hid ((hb.block Bs (Array.getElem?_eq_some_iff.1 NBs8.out).1).trans NBs8.out)
              clear HB8 NBs8 cBs0_8 cBs1_8 cBs2_8 cBs3_8 cBs4_8  hb hik
              obtain ⟨cBs0_9, cBs1_9, cBs2_9, cBs3_9, cBs4_9⟩ := cells5 NBs9.out
              go_wp2_with fail
              refine (HRR.out w9 (HA.out.keep HB9.out (Nat.le_refl _)) (HK.out.keep HB9.out (Nat.le_refl _))).mono ?_
              rintro e w10 ⟨A5, c5, rfl, hr5, hb⟩
              have HB10 := Lib.hid ((HB9.out).trans (hb.mono (HB9.out).size))
              have NBs10 := Lib.hid ((hb.block Bs (Array.getElem?_eq_some_iff.1 NBs9.out).1).trans NBs9.out)
              have FR10 := Lib.hid hr5
              clear HB9 NBs9 cBs0_9 cBs1_9 cBs2_9 cBs3_9 cBs4_9 hr5 hb 
              obtain ⟨cBs0_10, cBs1_10, cBs2_10, cBs3_10, cBs4_10⟩ := cells5 NBs10.out
              go_wp2_with fail
              refine (awake_any _).mono ?_
              rintro e w11 ⟨rfl, hb⟩
              have HB11 := Lib.hid ((HB10.out).trans (hb.mono (HB10.out).size))
              have NBs11 := Lib.hid ((hb.block Bs (Array.getElem?_eq_some_iff.1 NBs10.out).1).trans NBs10.out)
              have FR11 := Lib.hid ((FR10.out).keep hb (Nat.le_refl _))
              clear HB10 NBs10 cBs0_10 cBs1_10 cBs2_10 cBs3_10 cBs4_10 FR10 hb 
              obtain ⟨cBs0_11, cBs1_11, cBs2_11, cBs3_11, cBs4_11⟩ := cells5 NBs11.out
              go_wp2_with fail
              go_ret
              exact ⟨rfl, HB11.out⟩
            · obtain ⟨d1, d2, d3, _⟩ := trim_best hok hw hch
              have HYE := Lib.hid (fun A2 cp2 A3 c3 W x1 x2 => trim_yes s A2 cp2 A3 c3 k W x1 x2 hok hw hch)
              have HRR := Lib.hid (fun W x1 x2 => rtrim_any s A cp Ak ck k W hok hw x1 x2)
              rw [rTrim_yes hok hw hch] at HRR
              have hbd := wicks_bd hok (plan_parts (prove_iff.1 d2).1).2.2.2
              generalize bestL s (jobT s k) s.ns.length 0 s.sl = l at HYE HRR d1 d3 hbd
              generalize chp s (jobT s k) s.ns.length 0 s.sl = Y at HYE d3
              have l9 : l.length ≤ 1000000 := by omega
              have l8 : l.length ≤ 1000 := by omega
              have hpos := hok.pos
              have hl1 : decide (0 < l.length) = true := by simp; omega
              rw [hl1] at HRR
              have HD3 := Lib.hid d3
              have HBD := Lib.hid hbd
              have HD1 := Lib.hid d1
              clear hch h0 hw hok d1 d2 d3 hbd hl1
              go_wp2_with fail
              refine (HFA.out w3 (HA.out.keep HB3.out (Nat.le_refl _))).mono ?_
              rintro e w4 ⟨rfl, hb⟩
              have HB4 := Lib.hid ((HB3.out).trans (hb.mono (HB3.out).size))
              have NBs4 := Lib.hid ((hb.block Bs (Array.getElem?_eq_some_iff.1 NBs3.out).1).trans NBs3.out)
              clear HB3 NBs3 cBs0_3 cBs1_3 cBs2_3 cBs3_3 cBs4_3  hb 
              obtain ⟨cBs0_4, cBs1_4, cBs2_4, cBs3_4, cBs4_4⟩ := cells5 NBs4.out
              go_wp2_with fail
              refine (store_conv s A cp w4 (HA.out.keep HB4.out (Nat.le_refl _)) n9).mono ?_
              rintro e w5 ⟨A2, cp2, rfl, hs2, hb⟩
              have HB5 := Lib.hid ((HB4.out).trans (hb.mono (HB4.out).size))
              have NBs5 := Lib.hid ((hb.block Bs (Array.getElem?_eq_some_iff.1 NBs4.out).1).trans NBs4.out)
              have FS5 := Lib.hid hs2
              clear HB4 NBs4 cBs0_4 cBs1_4 cBs2_4 cBs3_4 cBs4_4 hs2 hb 
              obtain ⟨cBs0_5, cBs1_5, cBs2_5, cBs3_5, cBs4_5⟩ := cells5 NBs5.out
              go_wp2_with fail
              refine (list_some Ak ck k w5 n2 (HK.out.keep HB5.out (Nat.le_refl _)) k9).mono ?_
              rintro e w6 ⟨A3, c3, rfl, hl3, hn3, hb⟩
              have HB6 := Lib.hid ((HB5.out).trans (hb.mono (HB5.out).size))
              have NBs6 := Lib.hid ((hb.block Bs (Array.getElem?_eq_some_iff.1 NBs5.out).1).trans NBs5.out)
              have FS6 := Lib.hid ((FS5.out).keep hb (Nat.le_refl _))
              have FL6 := Lib.hid hl3
              clear HB5 NBs5 cBs0_5 cBs1_5 cBs2_5 cBs3_5 cBs4_5 FS5 hl3 hb hn3
              obtain ⟨cBs0_6, cBs1_6, cBs2_6, cBs3_6, cBs4_6⟩ := cells5 NBs6.out
              go_wp2_with fail
              refine (HYE.out A2 cp2 A3 c3 w6 FS6.out FL6.out).mono ?_
              rintro e w7 ⟨A4, c4, rfl, hv4, hn4, hb⟩
              have HB7 := Lib.hid ((HB6.out).trans (hb.mono (HB6.out).size))
              have NBs7 := Lib.hid ((hb.block Bs (Array.getElem?_eq_some_iff.1 NBs6.out).1).trans NBs6.out)
              have FS7 := Lib.hid ((FS6.out).keep hb (Nat.le_refl _))
              have FL7 := Lib.hid ((FL6.out).keep hb (Nat.le_refl _))
              have FV7 := Lib.hid hv4
              clear HB6 NBs6 cBs0_6 cBs1_6 cBs2_6 cBs3_6 cBs4_6 FS6 FL6 hv4 hb 
              obtain ⟨cBs0_7, cBs1_7, cBs2_7, cBs3_7, cBs4_7⟩ := cells5 NBs7.out
              clear FS7
              clear FL7
              clear hn4
              go_wp2_with fail
              refine (HFA.out w7 (HA.out.keep HB7.out (Nat.le_refl _))).mono ?_
              rintro e w8 ⟨rfl, hb⟩
              have HB8 := Lib.hid ((HB7.out).trans (hb.mono (HB7.out).size))
              have NBs8 := Lib.hid ((hb.block Bs (Array.getElem?_eq_some_iff.1 NBs7.out).1).trans NBs7.out)
              have FV8 := Lib.hid ((FV7.out).keep hb (Nat.le_refl _))
              clear HB7 NBs7 cBs0_7 cBs1_7 cBs2_7 cBs3_7 cBs4_7 FV7 hb 
              obtain ⟨cBs0_8, cBs1_8, cBs2_8, cBs3_8, cBs4_8⟩ := cells5 NBs8.out
              have hik := Lib.hid (rcans_any s A cp (.slice Ak k.length ck) k w8 n9 k9 (HK.out.keep HB8.out (Nat.le_refl _)))
              rw [HW.out] at hik
              go_wp2_with fail
              refine (hik.out).mono ?_
              rintro e w9 ⟨rfl, hb⟩
              have HB9 := Lib.hid ((HB8.out).trans (hb.mono (HB8.out).size))
              have NBs9 := Lib.hid ((hb.block Bs (Array.getElem?_eq_some_iff.1 NBs8.out).1).trans NBs8.out)
              have FV9 := Lib.hid ((FV8.out).keep hb (Nat.le_refl _))
              clear HB8 NBs8 cBs0_8 cBs1_8 cBs2_8 cBs3_8 cBs4_8 FV8 hb hik
              obtain ⟨cBs0_9, cBs1_9, cBs2_9, cBs3_9, cBs4_9⟩ := cells5 NBs9.out
              go_wp2_with fail
              refine (HRR.out w9 (HA.out.keep HB9.out (Nat.le_refl _)) (HK.out.keep HB9.out (Nat.le_refl _))).mono ?_
              rintro e w10 ⟨A5, c5, rfl, hr5, hb⟩
              have HB10 := Lib.hid ((HB9.out).trans (hb.mono (HB9.out).size))
              have NBs10 := Lib.hid ((hb.block Bs (Array.getElem?_eq_some_iff.1 NBs9.out).1).trans NBs9.out)
              have FV10 := Lib.hid ((FV9.out).keep hb (Nat.le_refl _))
              have FR10 := Lib.hid hr5
              clear HB9 NBs9 cBs0_9 cBs1_9 cBs2_9 cBs3_9 cBs4_9 FV9 hr5 hb 
              obtain ⟨cBs0_10, cBs1_10, cBs2_10, cBs3_10, cBs4_10⟩ := cells5 NBs10.out
              have hsm := Lib.hid (same_any _ _ l l w10 FV10.out FR10.out l9 l9)
              rw [show decide (l = l) = true from by simp] at hsm
              go_wp2_with fail
              refine (hsm.out).mono ?_
              rintro e w11 ⟨rfl, hb⟩
              have HB11 := Lib.hid ((HB10.out).trans (hb.mono (HB10.out).size))
              have NBs11 := Lib.hid ((hb.block Bs (Array.getElem?_eq_some_iff.1 NBs10.out).1).trans NBs10.out)
              have FV11 := Lib.hid ((FV10.out).keep hb (Nat.le_refl _))
              have FR11 := Lib.hid ((FR10.out).keep hb (Nat.le_refl _))
              clear HB10 NBs10 cBs0_10 cBs1_10 cBs2_10 cBs3_10 cBs4_10 FV10 FR10 hb hsm
              obtain ⟨cBs0_11, cBs1_11, cBs2_11, cBs3_11, cBs4_11⟩ := cells5 NBs11.out
              have hsu := Lib.hid (light_any s A cp (.slice A5 l.length c5) l w11 HOK.out (HA.out.keep HB11.out (Nat.le_refl _)) FR11.out HBD.out.1 HBD.out.2)
              rw [HD3.out] at hsu
              go_wp2_with fail
              refine (hsu.out).mono ?_
              rintro e w12 ⟨rfl, hb⟩
              have HB12 := Lib.hid ((HB11.out).trans (hb.mono (HB11.out).size))
              have NBs12 := Lib.hid ((hb.block Bs (Array.getElem?_eq_some_iff.1 NBs11.out).1).trans NBs11.out)
              have FV12 := Lib.hid ((FV11.out).keep hb (Nat.le_refl _))
              have FR12 := Lib.hid ((FR11.out).keep hb (Nat.le_refl _))
              clear HB11 NBs11 cBs0_11 cBs1_11 cBs2_11 cBs3_11 cBs4_11 FV11 FR11 hb hsu
              obtain ⟨cBs0_12, cBs1_12, cBs2_12, cBs3_12, cBs4_12⟩ := cells5 NBs12.out
              go_wp2_with fail
              refine (awake_any _).mono ?_
              rintro e w13 ⟨rfl, hb⟩
              have HB13 := Lib.hid ((HB12.out).trans (hb.mono (HB12.out).size))
              have NBs13 := Lib.hid ((hb.block Bs (Array.getElem?_eq_some_iff.1 NBs12.out).1).trans NBs12.out)
              have FV13 := Lib.hid ((FV12.out).keep hb (Nat.le_refl _))
              have FR13 := Lib.hid ((FR12.out).keep hb (Nat.le_refl _))
              clear HB12 NBs12 cBs0_12 cBs1_12 cBs2_12 cBs3_12 cBs4_12 FV12 FR12 hb 
              obtain ⟨cBs0_13, cBs1_13, cBs2_13, cBs3_13, cBs4_13⟩ := cells5 NBs13.out
              go_wp2_with fail
              go_ret
              exact ⟨rfl, HB13.out⟩
end Go.Proofs.Ytefhdcecbmgljaa

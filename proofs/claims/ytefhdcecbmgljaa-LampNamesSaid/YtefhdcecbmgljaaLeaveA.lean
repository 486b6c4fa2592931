/-
  Leave: what its closure works with.
-/
import Derived.Test.YtefhdcecbmgljaaClone
import Derived.Test.YtefhdcecbmgljaaLevels
import Derived.Test.YtefhdcecbmgljaaLeaveP
set_option linter.all false
namespace Go.Proofs.Ytefhdcecbmgljaa
open Go.RowKit Go.WalkArith

def flatD (l : List Dp) : List Value := l.flatMap fun d => [.int .i64 d.n, .int .i64 d.lo, .int .i64 d.hi]
theorem flatD_len (l : List Dp) : (flatD l).length = l.length * 3 := by
  induction l with
  | nil => rfl
  | cons d l ih => simp only [flatD, List.flatMap_cons, List.length_append, List.length_cons, List.length_nil] at *; omega
theorem flatD_snoc (l : List Dp) (d : Dp) : flatD (l ++ [d]) = flatD l ++ [.int .i64 d.n, .int .i64 d.lo, .int .i64 d.hi] := by simp [flatD, List.flatMap_append]
theorem flatD_at {l : List Dp} {i : Nat} (h : i < l.length) : (flatD l)[i * 3]? = some (.int .i64 l[i].n) ∧ (flatD l)[i * 3 + 1]? = some (.int .i64 l[i].lo) ∧ (flatD l)[i * 3 + 2]? = some (.int .i64 l[i].hi) := by
  induction l generalizing i with
  | nil => cases h
  | cons d l ih =>
    cases i with
    | zero => exact ⟨rfl, rfl, rfl⟩
    | succ i =>
      have := ih (i := i) (by simpa using h)
      have e : ∀ j, (flatD (d :: l))[(i + 1) * 3 + j]? = (flatD l)[i * 3 + j]? := fun j => by
        show ([Value.int .i64 d.n, .int .i64 d.lo, .int .i64 d.hi] ++ flatD l)[(i + 1) * 3 + j]? = _
        rw [List.getElem?_append_right (by simp; omega)]
        congr 1
        simp; omega
      exact ⟨(e 0).trans this.1, (e 1).trans this.2.1, (e 2).trans this.2.2⟩
theorem DpsAt.of_own {W : World} {base : Nat} {v : Value} {n : Nat} {l : List Dp} (h : W.ownsRow base 103 3 v n (flatD l)) : ∃ A cap, v = .slice A l.length cap ∧ DpsAt W A l := by
  have hl : l.length = n := by have := h.1; rw [flatD_len] at this; omega
  subst hl
  rcases h.2 with ⟨rfl, h0⟩ | ⟨g, cap, cur, rfl, h1, h2, h3, h4, h5, h6⟩
  · have : l = [] := List.length_eq_zero_iff.1 h0
    subst this
    exact ⟨none, 0, rfl, .inl rfl⟩
  · refine ⟨_, cap, rfl, .inr ⟨g, 0, rfl, fun i hi => ?_⟩⟩
    have hc : ∀ k v, (flatD l)[k]? = some v → W.cell? ⟨g, k, none⟩ = some v := fun k v hk => by
      rw [← h6] at hk
      have hlt : k < l.length * 3 := by
        have := (List.getElem?_eq_some_iff.1 hk).1
        rw [List.length_take] at this
        omega
      rw [List.getElem?_take_of_lt hlt] at hk
      have : cur[k]? = some v := by simpa using hk
      simp [World.cell?, h2, this]
    obtain ⟨f0, f1, f2⟩ := flatD_at hi
    rw [Nat.zero_add]
    exact ⟨hc _ _ f0, hc _ _ f1, hc _ _ f2⟩

/-- Nothing that lay has turned but the variable of what was found. -/
structure LvE (W0 : World) (Bf : Nat) (W : World) : Prop where
  os : W.os = W0.os
  tape : W.tape = W0.tape
  output : W.output = W0.output
  size : W0.heap.size ≤ W.heap.size
  same : ∀ k, k < W0.heap.size → k ≠ Bf → W.heap[k]? = W0.heap[k]?
  cell : ∃ v, W.heap[Bf]? = some (.cells #[v] 27 (0, 0))
section
variable {W0 W W' : World} {Bf : Nat}
theorem LvE.lt (h : LvE W0 Bf W) : Bf < W.heap.size := by obtain ⟨v, h⟩ := h.cell; exact (Array.getElem?_eq_some_iff.1 h).1
theorem LvE.keep (h : LvE W0 Bf W) (hb : Below W.heap.size W W') : LvE W0 Bf W' := by
  obtain ⟨v, hv⟩ := h.cell
  exact ⟨hb.os.trans h.os, hb.tape.trans h.tape, hb.output.trans h.output, Nat.le_trans h.size hb.size, fun k hk h1 => (hb.block k (Nat.lt_of_lt_of_le hk h.size)).trans (h.same k hk h1), v, (hb.block Bf h.lt).trans hv⟩
theorem LvE.grown (h : LvE W0 Bf W) (hBf : Bf < W0.heap.size) {row : Option Nat} (hg : W.grownBy W' row) (hr : ∀ r, row = some r → W0.heap.size ≤ r) : LvE W0 Bf W' := by
  obtain ⟨v, hv⟩ := h.cell
  have hb : ∀ k, k < W0.heap.size → W'.heap[k]? = W.heap[k]? := fun k hk => hg.block k (Nat.lt_of_lt_of_le hk h.size) (fun e => by have := hr k e.symm; omega)
  exact ⟨hg.os.trans h.os, hg.tape.trans h.tape, hg.output.trans h.output, Nat.le_trans h.size hg.size, fun k hk h1 => (hb k hk).trans (h.same k hk h1), v, (hb Bf hBf).trans hv⟩
theorem LvE.store (h : LvE W0 Bf W) (v : Value) : LvE W0 Bf (W.setCell ⟨Bf, 0, none⟩ v) ∧ (W.setCell ⟨Bf, 0, none⟩ v).heap[Bf]? = some (.cells #[v] 27 (0, 0)) := by
  obtain ⟨u, hu⟩ := h.cell
  have hc : (W.setCell ⟨Bf, 0, none⟩ v).heap[Bf]? = some (.cells #[v] 27 (0, 0)) := by simp [World.setCell, Array.getElem?_modify, hu]
  exact ⟨⟨h.os, h.tape, h.output, by simpa using h.size, fun k hk h1 => (Below.heap_setCell _ _ _ _ h1).trans (h.same k hk h1), v, hc⟩, hc⟩
theorem own_store {base e size n : Nat} {v : Value} {xs : List Value} (h : W.ownsRow base e size v n xs) (hB : Bf < base) (u : Value) : (W.setCell ⟨Bf, 0, none⟩ u).ownsRow base e size v n xs := ownsRow_setCell_below h (by exact hB) u
end

/-- What the closure captures. -/
structure LvCap (W0 : World) (Bd Bf Bs Bp Bl : Nat) (s : St) (A : Option Addr) (cp : Nat) (Ac Ak Ad : Option Addr) (cc ck cd : Nat) (c k : List Int) (dips : List Dp) : Prop where
  dp : W0.heap[Bd]? = some (.cells #[.slice Ad dips.length cd] 60 (0, 0))
  st : W0.heap[Bs]? = some (.cells #[.int .i64 s.cap, .int .i64 s.can, .int .i64 s.sl, .int .i64 s.sh, .slice A s.ns.length cp] 39 (0, 0))
  pl : W0.heap[Bp]? = some (.cells #[.slice Ac c.length cc, .slice Ak k.length ck] 44 (0, 0))
  fn : W0.heap[Bl]? = some (.cells #[.func (.func 72) #[] #[.pointer (some ⟨Bd, 0, none⟩), .pointer (some ⟨Bf, 0, none⟩), .pointer (some ⟨Bs, 0, none⟩), .pointer (some ⟨Bp, 0, none⟩), .pointer (some ⟨Bl, 0, none⟩)]] 120 (0, 0))
  nd : Bd ≠ Bf
  ns : Bs ≠ Bf
  np : Bp ≠ Bf
  nl : Bl ≠ Bf
  lo : Bf < W0.heap.size
  mem : ∀ X : World, (∀ j, j < W0.heap.size → j ≠ Bf → X.heap[j]? = W0.heap[j]?) → NtsAt X A s.ns ∧ IntsAt X (.slice Ac c.length cc) c ∧ IntsAt X (.slice Ak k.length ck) k ∧ DpsAt X Ad dips

/-- How the closure ends. -/
def FPost (W0 : World) (Bf : Nat) (r : Option (List Int)) (e : Ending) (W' : World) : Prop :=
  e = .returned (.bool r.isSome) ∧ LvE W0 Bf W' ∧ ∀ xs, r = some xs → ∃ v, W'.heap[Bf]? = some (.cells #[v] 27 (0, 0)) ∧ W'.ownsRow W0.heap.size 3 1 v xs.length (xs.map (Value.int .i64))

def KRel (dips : List Dp) (out : List Int) (W : World) (v i : Value) (wr : World) : Prop :=
  ∃ m : Nat, m ≤ dips.length ∧ i = .int .i64 m ∧ wr.ownsRow W.heap.size 103 3 v (keptTo dips out m).length (flatD (keptTo dips out m)) ∧ Below W.heap.size W wr
theorem Try.info103 : (Try.prog.info? 103).map (fun i => (i.zero, i.size, i.bytes)) = some (some (.agg #[.int .i64 0, .int .i64 0, .int .i64 0]), 3, 24) := by kernel_rfl

set_option maxRecDepth 100000 in
set_option maxHeartbeats 4000000 in
theorem leave_zero (W0 : World) (Bd Bf Bs Bp Bl : Nat) (s : St) (A : Option Addr) (cp : Nat) (Ac Ak Ad : Option Addr) (cc ck cd : Nat) (c k : List Int) (dips : List Dp) (hcp : LvCap W0 Bd Bf Bs Bp Bl s A cp Ac Ak Ad cc ck cd c k dips) (hok : planL s c k = 0) (hdl : dips.length ≤ 6) (start : Nat) (out : List Int) (hon : out.length ≤ 100) (v : Value) (W : World) (hE : LvE W0 Bf W) (hown : W.ownsRow W0.heap.size 3 1 v out.length (out.map (Value.int .i64))) :
    Calls Try.prog 72 #[v, .int .i64 start, .int .i64 0, .pointer (some ⟨Bd, 0, none⟩), .pointer (some ⟨Bf, 0, none⟩), .pointer (some ⟨Bs, 0, none⟩), .pointer (some ⟨Bp, 0, none⟩), .pointer (some ⟨Bl, 0, none⟩)] W (FPost W0 Bf (leaveF (keptB s (atL c) (atL k) dips) dips.length 0 out start)) := by
  obtain ⟨vA, vc, rfl⟩ := (IntsAt.of_own hown).slice
  have lD := (Array.getElem?_eq_some_iff.1 hcp.dp).1
  have lS := (Array.getElem?_eq_some_iff.1 hcp.st).1
  have lP := (Array.getElem?_eq_some_iff.1 hcp.pl).1
  have hsz := hE.size
  have lF := hcp.lo
  have c0 : W.cell? ⟨Bd, 0, none⟩ = some (.slice Ad dips.length cd) := by simp [World.cell?, (hE.same Bd lD hcp.nd).trans hcp.dp]
  have HO := Lib.hid (planL_zero.1 hok).1
  have HCP := Lib.hid hcp
  have HOK := Lib.hid hok
  have HE := Lib.hid hE
  have HOWN := Lib.hid hown
  have hsame : ∀ X, Below W.heap.size W X → NtsAt X A s.ns ∧ IntsAt X (.slice Ac c.length cc) c ∧ IntsAt X (.slice Ak k.length ck) k ∧ DpsAt X Ad dips := fun X hX => hcp.mem X (hE.keep hX).same
  have HM := Lib.hid hsame
  obtain ⟨i0, hi0', hz0', hz1', hz2'⟩ := info_parts Try.info103
  have hi0 := Lib.hid hi0'
  have hz0 := Lib.hid hz0'
  have hz1 := Lib.hid hz1'
  have hz2 := Lib.hid hz2'
  clear hcp hE hown hok hsame hi0' hz0' hz1' hz2'
  go_enter Try.func72, Try.ntmps72
  go_wp2_with fail
  clear c0
  go_loopw [12, 22] (KRel dips out W) (fun _ i _ => dips.length - (intOf i).toNat)
  case atStart => exact ⟨0, by omega, rfl, World.ownsRow_nil _ _ _ _, Below.refl _ _⟩
  case round =>
    obtain ⟨m, hm, rfl, how, hbe⟩ := hrel
    have HW := Lib.hid how
    have HB := Lib.hid hbe
    have hws := hbe.size
    clear how hbe
    by_cases hlt : m < dips.length
    · have hlt' : decide ((m : Int) < (dips.length : Int)) = true := by simp; omega
      obtain ⟨bd, od, rfl, d0, d1, d2⟩ := (HM.out wr HB.out).2.2.2.at hlt
      have m0 : (0 : Int) ≤ (m : Int) := by omega
      have m1 : (m : Int) < (dips.length : Int) := by omega
      have hb4 : Below wr.heap.size wr (wr.alloc (.cells #[.int .i64 dips[m].n, .int .i64 dips[m].lo, .int .i64 dips[m].hi] 103)) := (Below.refl _ _).alloc (Nat.le_refl _) _
      have hct := Lib.hid (contains_any (.slice vA out.length vc) out m (wr.alloc (.cells #[.int .i64 dips[m].n, .int .i64 dips[m].lo, .int .i64 dips[m].hi] 103)) ((IntsAt.of_own HOWN.out).keep (HB.out.trans (hb4.mono hws)) (Nat.le_refl _)) (by omega))
      have hks := keptTo_succ dips out m
      rw [show dips.getD m ⟨0, 0, 0⟩ = dips[m] by simp [hlt]] at hks
      have hkl := keptTo_len dips out m
      have HKS := Lib.hid hks
      have HB4 := Lib.hid (HB.out.trans (hb4.mono hws))
      have HW4 := Lib.hid (HW.out.kept (Go_grown_of_below hb4) (own_none _))
      obtain ⟨dn, hdn⟩ : ∃ x, dips[m].n = x := ⟨_, rfl⟩
      obtain ⟨dl, hdl'⟩ : ∃ x, dips[m].lo = x := ⟨_, rfl⟩
      obtain ⟨dh, hdh⟩ : ∃ x, dips[m].hi = x := ⟨_, rfl⟩
      have HDM := Lib.hid (show dips[m] = ⟨dn, dl, dh⟩ by rw [← hdn, ← hdl', ← hdh])
      rw [hdn, hdl', hdh] at hct HB4 HW4
      rw [hdn] at d0
      rw [hdl'] at d1
      rw [hdh] at d2
      clear hb4 hks hdn hdl' hdh
      cases hcn : out.contains (m : Int) with
      | true =>
        rw [hcn] at hct
        have HCN := Lib.hid hcn
        clear hcn
        go_wp2_with fail
        with_reducible refine hct.out.mono ?_
        rintro e w' ⟨rfl, rfl⟩
        go_wp2_with fail
        go_roundw
        case rel => exact ⟨m + 1, by omega, by go_num, by rw [HKS.out, if_pos HCN.out]; exact HW4.out, HB4.out⟩
        case measure => simp [intOf]; omega
      | false =>
        rw [hcn] at hct
        have HCN := Lib.hid hcn
        clear hcn
        have hnew := Go.heap_alloc_new wr (.cells #[.int .i64 dn, .int .i64 dl, .int .i64 dh] 103)
        generalize hw4 : wr.alloc (.cells #[.int .i64 dn, .int .i64 dl, .int .i64 dh] 103) = w4 at hct HB4 HW4 hnew
        have e0 : w4.cell? ⟨wr.heap.size, 0, none⟩ = some (.int .i64 dn) := by simp [World.cell?, hnew]
        have e1 : w4.cell? ⟨wr.heap.size, 1, none⟩ = some (.int .i64 dl) := by simp [World.cell?, hnew]
        have e2 : w4.cell? ⟨wr.heap.size, 2, none⟩ = some (.int .i64 dh) := by simp [World.cell?, hnew]
        have hw4s := HB4.out.size
        have HW9 := Lib.hid hw4
        clear hnew hw4
        go_wp2_with fail
        rw [HW9.out]
        with_reducible refine hct.out.mono ?_
        rintro e w' ⟨rfl, rfl⟩
        go_wp2_with (at_builtin; refine wpList_append_own _ rfl _ _ 60 rfl W.heap.size 103 i0 (.agg #[.int .i64 0, .int .i64 0, .int .i64 0]) 3 24 Try.underlying60 hi0.out hz0.out hz1.out hz2.out rfl (by decide) _ _ _ rfl (HW4.out.alloc _) ⟨w4.heap.size, 0, none⟩ 1 1 [.int .i64 dn, .int .i64 dl, .int .i64 dh] rfl rfl ?c1 ?c2 ?c3 ?c4 ?c5 ?_)
        case c1 => exact World.news_of_block (cs := #[.int .i64 dn, .int .i64 dl, .int .i64 dh]) (t := 103) (fr := (0, 0)) (Go.heap_alloc_new w4 _)
        case c2 => simp [Value.oneCell']
        case c3 => unfold maxLen; omega
        case c4 => omega
        case c5 => simp; omega
        intro v2 w6 hown6 hgrow hnil6
        have hx6 : Below W.heap.size w4 w6 := ((Below.refl _ w4).alloc (by omega) _).trans (below_of_grown hgrow (HW4.out.alloc _) (Nat.le_refl _) (by simp; omega))
        have HOWN6 := Lib.hid hown6
        have HBE6 := Lib.hid (HB4.out.trans (hx6.mono (Nat.le_refl _)))
        clear hown6 hgrow hnil6 hx6 e0 e1 e2
        go_wp2_with fail
        go_roundw
        case rel => exact ⟨m + 1, by omega, by go_num, by rw [HKS.out, if_neg (by rw [HCN.out]; simp), HDM.out, flatD_snoc, List.length_append]; exact HOWN6.out, HBE6.out⟩
        case measure => simp [intOf]; omega
    · have hlt' : decide ((m : Int) < (dips.length : Int)) = false := by simp; omega
      obtain rfl : m = dips.length := by omega
      have hE1 := HE.out.keep HB.out
      obtain ⟨hE2, hc2⟩ := hE1.store (.slice vA out.length vc)
      have hown1 := own_store (Bf := Bf) (HOWN.out.kept (Go_grown_of_below HB.out) (own_none _)) lF (.slice vA out.length vc)
      obtain ⟨u, hu⟩ := hE1.cell
      have cF : wr.cell? ⟨Bf, 0, none⟩ = some u := by simp [World.cell?, hu]
      have zF : wr.frozen? ⟨Bf, 0, none⟩ = false := by simp [World.frozen?, hu]
      have hkl := keptTo_len dips out dips.length
      obtain ⟨Ax, cx, rfl, hdx⟩ := DpsAt.of_own (own_store (Bf := Bf) HW.out (by omega) (.slice vA out.length vc))
      obtain ⟨hm1, hm2, hm3, hm4⟩ := HCP.out.mem _ hE2.same
      have hlv := Lib.hid (levels_any s A cp Ac Ak Ax cc ck cx c k (keptTo dips out dips.length) (wr.setCell ⟨Bf, 0, none⟩ (.slice vA out.length vc)) HOK.out (by omega) hm1 hm2 hm3 hdx)
      have n0 := (hE2.same Bs lS HCP.out.ns).trans HCP.out.st
      have n1 := (hE2.same Bp lP HCP.out.np).trans HCP.out.pl
      have b0 : (wr.setCell ⟨Bf, 0, none⟩ (.slice vA out.length vc)).cell? ⟨Bs, 0, none⟩ = some (.int .i64 s.cap) := by simp [World.cell?, n0]
      have b1 : (wr.setCell ⟨Bf, 0, none⟩ (.slice vA out.length vc)).cell? ⟨Bs, 1, none⟩ = some (.int .i64 s.can) := by simp [World.cell?, n0]
      have b2 : (wr.setCell ⟨Bf, 0, none⟩ (.slice vA out.length vc)).cell? ⟨Bs, 2, none⟩ = some (.int .i64 s.sl) := by simp [World.cell?, n0]
      have b3 : (wr.setCell ⟨Bf, 0, none⟩ (.slice vA out.length vc)).cell? ⟨Bs, 3, none⟩ = some (.int .i64 s.sh) := by simp [World.cell?, n0]
      have b4 : (wr.setCell ⟨Bf, 0, none⟩ (.slice vA out.length vc)).cell? ⟨Bs, 4, none⟩ = some (.slice A s.ns.length cp) := by simp [World.cell?, n0]
      have b5 : (wr.setCell ⟨Bf, 0, none⟩ (.slice vA out.length vc)).cell? ⟨Bp, 0, none⟩ = some (.slice Ac c.length cc) := by simp [World.cell?, n1]
      have b6 : (wr.setCell ⟨Bf, 0, none⟩ (.slice vA out.length vc)).cell? ⟨Bp, 1, none⟩ = some (.slice Ak k.length ck) := by simp [World.cell?, n1]
      have HE2 := Lib.hid hE2
      have HC2 := Lib.hid hc2
      have HOWN1 := Lib.hid hown1
      clear hE1 hE2 hc2 hown1 hu hdx hm1 hm2 hm3 hm4 n0 n1 HW
      go_wp2_with fail
      with_reducible refine hlv.out.mono ?_
      rintro e w3 ⟨hb3, hcase⟩
      have HE3 := Lib.hid (HE2.out.keep hb3)
      have HC3 := Lib.hid ((hb3.block _ (Array.getElem?_eq_some_iff.1 HC2.out).1).trans HC2.out)
      have HOWN3 := Lib.hid (HOWN1.out.kept (Go_grown_of_below hb3) (own_none _))
      clear b0 b1 b2 b3 b4 b5 b6 hlv cF zF
      rcases hcase with ⟨hcn, rfl⟩ | ⟨v9, xs9, F9, rfl, hcn, _⟩
      · have hkb : keptB s (atL c) (atL k) dips out = false := by
          unfold keptB
          cases e : consB s (atL c) (atL k) (keptL dips out) with
          | false => rfl
          | true => exact absurd ((consB_iff HO.out).1 e) hcn
        have hfin : FPost W0 Bf (leaveF (keptB s (atL c) (atL k) dips) dips.length 0 out start) (.returned (.bool false)) w3 := by
          simp only [leaveF, hkb, Bool.false_eq_true, if_false]
          exact ⟨rfl, HE3.out, fun xs h => by cases h⟩
        have HFIN := Lib.hid hfin
        clear hfin hkb hcn hb3
        go_wp2_with fail
        go_ret
        exact HFIN.out
      · have hkb : keptB s (atL c) (atL k) dips out = true := (consB_iff HO.out).2 hcn
        have hfin : FPost W0 Bf (leaveF (keptB s (atL c) (atL k) dips) dips.length 0 out start) (.returned (.bool true)) w3 := by
          simp only [leaveF, hkb, if_true]
          exact ⟨rfl, HE3.out, fun xs h => by cases h; exact ⟨_, HC3.out, HOWN3.out⟩⟩
        have HFIN := Lib.hid hfin
        clear hfin hkb hcn hb3
        go_wp2_with fail
        go_ret
        exact HFIN.out
end Go.Proofs.Ytefhdcecbmgljaa

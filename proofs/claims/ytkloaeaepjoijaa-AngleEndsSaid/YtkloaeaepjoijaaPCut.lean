/-
  rising, ProveCut.
-/
import Derived.Test.YtkloaeaepjoijaaPTruth
set_option linter.all false
namespace Go.Proofs.Ytkloaeaepjoijaa
open Go.RowKit Go.WalkArith

/-- Numbers rise from 0 to less than a number. -/
def risesAt (xs : List Int) (many : Int) (i : Nat) : Bool := inB (xs.getD i 0) 0 (many - 1) && (decide (i = 0) || decide (xs.getD (i - 1) 0 < xs.getD i 0))
def risingB (xs : List Int) (many : Int) : Bool := (List.range xs.length).all (risesAt xs many)

theorem risingB_no {xs : List Int} {many : Int} {k : Nat} (hk : k < xs.length) (h : risesAt xs many k = false) : risingB xs many = false := by
  unfold risingB
  rw [List.all_eq_false]
  exact ⟨k, List.mem_range.2 hk, by rw [h]; simp⟩
theorem risingB_yes {xs : List Int} {many : Int} (h : ∀ j, j < xs.length → risesAt xs many j = true) : risingB xs many = true :=
  List.all_eq_true.2 fun j hj => h j (List.mem_range.1 hj)

set_option maxRecDepth 100000 in
set_option maxHeartbeats 2000000 in
theorem rising_any (v : Value) (xs : List Int) (many : Int) (w : World) (hv : IntsAt w v xs) (hn : xs.length ≤ 1000000) (h0 : 0 ≤ many) (h1 : many ≤ 5) :
    Calls Try.prog 70 #[v, .int .i64 many] w fun e w' => e = .returned (.bool (risingB xs many)) ∧ w = w' := by
  obtain ⟨A, cap, rfl, hx⟩ := hv
  have HX := Lib.hid hx
  clear hx
  go_enter Try.func70, Try.ntmps70
  go_wp2_with fail
  go_loop [9] (fun i => ∃ k : Nat, k ≤ xs.length ∧ i = .int .i64 k ∧ ∀ j, j < k → risesAt xs many j = true) (fun i => xs.length - (intOf i).toNat)
  case atStart => exact ⟨0, by omega, rfl, fun j h => by omega⟩
  case round =>
    obtain ⟨k, hk, rfl, hno⟩ := hrel
    have HN := Lib.hid hno
    clear hno
    by_cases hlt : k < xs.length
    · obtain ⟨b, o, rfl, hc⟩ := HX.out.resolve_left (fun h => by rw [h] at hlt; simp at hlt)
      have hlt' : decide ((k : Int) < (xs.length : Int)) = true := by simpa using hlt
      have ck := hc k hlt
      obtain ⟨y, hy⟩ : ∃ y, xs[k] = y := ⟨_, rfl⟩
      rw [hy] at ck
      have hyd : xs.getD k 0 = y := by simp [hlt, hy]
      have hin := Lib.hid (fun w => within_b y 0 (many - 1) w)
      cases hb : inB y 0 (many - 1) with
      | false =>
        rw [hb] at hin
        have hf : risingB xs many = false := risingB_no hlt (by unfold risesAt; rw [hyd, hb]; rfl)
        have HF := Lib.hid hf
        clear hf hy hyd hb hc
        go_wp2_with (go_at_call 68; refine (hin.out _).mono ?_; rintro e w' ⟨rfl, rfl⟩)
        go_ret
        exact ⟨by rw [HF.out]; rfl, rfl⟩
      | true =>
        rw [hb] at hin
        by_cases hk0 : k = 0
        · subst hk0
          have hra : risesAt xs many 0 = true := by unfold risesAt; rw [hyd, hb]; rfl
          have HRA := Lib.hid hra
          have hz : decide ((0 : Int) < ((0 : Nat) : Int)) = false := by simp
          have ck0 : w.cell? ⟨b, o, none⟩ = some (.int .i64 y) := ck
          clear hra hy hyd hb hc
          go_wp2_with (go_at_call 68; refine (hin.out _).mono ?_; rintro e w' ⟨rfl, rfl⟩)
          go_round
          case rel => exact ⟨1, by omega, rfl, fun j hj => by (obtain rfl : j = 0 := (by omega)); exact HRA.out⟩
          case measure => simp [intOf]; omega
        · obtain ⟨m, rfl⟩ : ∃ m, k = m + 1 := ⟨k - 1, by omega⟩
          have cm := hc m (by omega)
          obtain ⟨z, hz⟩ : ∃ z, xs[m] = z := ⟨_, rfl⟩
          rw [hz] at cm
          have hzd : xs.getD m 0 = z := by simp [show m < xs.length by omega, hz]
          have hpos : decide ((0 : Int) < (m : Int) + 1) = true := by rw [decide_eq_true_eq]; omega
          rw [show (((m + 1 : Nat)) : Int) = (m : Int) + 1 by omega]
          have ck2 : w.cell? ⟨b, o + (m + 1), none⟩ = some (.int .i64 y) := ck
          have i1 : (0 : Int) ≤ (m : Int) := by omega
          have i2 : (m : Int) + 1 < (xs.length : Int) := by omega
          by_cases hzy : z < y
          · have hle : decide (y ≤ z) = false := by simp; omega
            have hra : risesAt xs many (m + 1) = true := by unfold risesAt; rw [hyd, hb, show m + 1 - 1 = m by omega, hzd]; simp [hzy]
            have HRA := Lib.hid hra
            clear hra hy hyd hb hc hz hzd
            go_wp2_with (go_at_call 68; refine (hin.out _).mono ?_; rintro e w' ⟨rfl, rfl⟩)
            go_round
            case rel => exact ⟨m + 1 + 1, by omega, by go_num, fun j hj => by
              by_cases e : j = m + 1
              · rw [e]; exact HRA.out
              · exact HN.out j (by omega)⟩
            case measure => simp [intOf]; omega
          · have hle : decide (y ≤ z) = true := by simp; omega
            have hf : risingB xs many = false := risingB_no hlt (by unfold risesAt; rw [hyd, hb, show m + 1 - 1 = m by omega, hzd]; simp [hzy])
            have HF := Lib.hid hf
            clear hf hy hyd hb hc hz hzd
            go_wp2_with (go_at_call 68; refine (hin.out _).mono ?_; rintro e w' ⟨rfl, rfl⟩)
            go_ret
            exact ⟨by rw [HF.out]; rfl, rfl⟩
    · have hlt' : decide ((k : Int) < (xs.length : Int)) = false := by simpa using hlt
      have hf : risingB xs many = true := risingB_yes fun j hj => HN.out j (by omega)
      have HF := Lib.hid hf
      clear hf
      go_wp2_with fail
      go_ret
      exact ⟨by rw [HF.out]; rfl, rfl⟩

/-- The ends of what angles bear over a cut that is told by lists. -/
def lowC (l : List Ang) (lo hi : Int → Int) (ts cs : List Int) (k : Nat) : Int := sumR k fun i => if ts.contains (tOf l i) && !cs.contains (cOf l i) then lo i else if cs.contains (cOf l i) && !ts.contains (tOf l i) then -hi i else 0
def highC (l : List Ang) (lo hi : Int → Int) (ts cs : List Int) (k : Nat) : Int := sumR k fun i => if ts.contains (tOf l i) && !cs.contains (cOf l i) then hi i else if cs.contains (cOf l i) && !ts.contains (tOf l i) then -lo i else 0

/-- A cut proves that there is no truth. -/
def cutB (l : List Ang) (T C err : Int) (ts cs : List Int) : Bool :=
  decide (askedL l T C err = 0) && (risingB ts T && (risingB cs C && !inB ((ts.length : Int) * 36 - (cs.length : Int) * 72) (lowC l (roomLo l err []) (roomHi l err []) ts cs l.length) (highC l (roomLo l err []) (roomHi l err []) ts cs l.length)))

theorem rises_length {xs : List Int} {many : Int} (h : risingB xs many = true) (h0 : 0 ≤ many) : (xs.length : Int) ≤ many := by
  have key : ∀ i : Nat, i < xs.length → (i : Int) ≤ xs.getD i 0 ∧ xs.getD i 0 ≤ many - 1 := by
    intro i
    induction i with
    | zero =>
      intro hi
      have := List.all_eq_true.1 h 0 (List.mem_range.2 hi)
      unfold risesAt at this
      rw [Bool.and_eq_true] at this
      have := inB_true.1 this.1
      omega
    | succ i ih =>
      intro hi
      have h1 := ih (by omega)
      have := List.all_eq_true.1 h (i + 1) (List.mem_range.2 hi)
      unfold risesAt at this
      rw [Bool.and_eq_true, show i + 1 - 1 = i by omega] at this
      have h2 := inB_true.1 this.1
      have h3 : xs.getD i 0 < xs.getD (i + 1) 0 := by simpa using this.2
      omega
  by_cases e : xs.length = 0
  · omega
  · have := key (xs.length - 1) (by omega)
    omega

theorem lowC_bd (l : List Ang) (lo hi : Int → Int) (ts cs : List Int) : ∀ k : Nat, (∀ i : Nat, i < k → 0 ≤ lo i ∧ lo i ≤ hi i ∧ hi i ≤ 40) → (-40 * (k : Int) ≤ lowC l lo hi ts cs k ∧ lowC l lo hi ts cs k ≤ 40 * k) ∧ (-40 * (k : Int) ≤ highC l lo hi ts cs k ∧ highC l lo hi ts cs k ≤ 40 * k) := by
  intro k
  induction k with
  | zero => intro _; simp [lowC, highC, sumR]
  | succ k ih =>
    intro h
    have h1 := ih (fun i hi => h i (by omega))
    have h2 := h k (by omega)
    unfold lowC highC at h1 ⊢
    simp only [sumR]
    constructor
    · split
      · omega
      · split <;> omega
    · split
      · omega
      · split <;> omega

def KRel (l : List Ang) (err : Int) (n : Nat) (ts cs : List Int) (w : World) (Bn Bu Bc Br : Nat) (net cut : Obj) (rs : Array Value) (i : Value) (wr : World) : Prop :=
  ∃ k : Nat, k ≤ n ∧ i = .int .i64 k ∧ wr.heap[Bc]? = some (.cells #[.int .i64 (lowC l (roomLo l err []) (roomHi l err []) ts cs k), .int .i64 (highC l (roomLo l err []) (roomHi l err []) ts cs k)] 58 (0, 0)) ∧
    wr.heap[Bn]? = some net ∧ wr.heap[Bu]? = some cut ∧ wr.heap[Br]? = some (.cells rs 109 (0, 0)) ∧ Below w.heap.size w wr

theorem set_two {w : World} {B t : Nat} {x y : Value} {fr : Nat × Nat} (h : w.heap[B]? = some (.cells #[x, y] t fr)) (x' y' : Value) :
    ((w.setCell ⟨B, 0, none⟩ x').setCell ⟨B, 1, none⟩ y').drew.heap[B]? = some (.cells #[x', y'] t fr) := by
  obtain ⟨hlt, hg⟩ := Array.getElem?_eq_some_iff.1 h
  simp [World.setCell, hlt, World.drew, Array.getElem_modify, hg]

set_option maxRecDepth 100000 in
set_option maxHeartbeats 4000000 in
theorem proveCut_any (A : Option Addr) (n cap : Nat) (T C err : Int) (l : List Ang) (tv cv : Value) (ts cs : List Int) (w : World) (hn : n ≤ 1000000) (hl : l.length = n) (hA : AngsAt w A l) (ht : IntsAt w tv ts) (hc : IntsAt w cv cs) (htl : ts.length ≤ 1000000) (hcl : cs.length ≤ 1000000) :
    Calls Try.prog 24 #[.agg #[.slice A n cap, .int .i64 T, .int .i64 C], .int .i64 err, .agg #[tv, cv]] w fun e w' => e = .returned (.bool (cutB l T C err ts cs)) ∧ Below w.heap.size w w' := by
  obtain ⟨At, tcap, htv, htx⟩ := ht
  obtain ⟨Ac, ccap, hcv, hcx⟩ := hc
  have ht2 : IntsAt w tv ts := ⟨At, tcap, htv, htx⟩
  have hc2 : IntsAt w cv cs := ⟨Ac, ccap, hcv, hcx⟩
  rw [htv] at ht2 ⊢
  rw [hcv] at hc2 ⊢
  have HT := Lib.hid ht2
  have HC := Lib.hid hc2
  clear htv hcv htx hcx ht2 hc2
  have hB : Below w.heap.size w ((w.alloc (.cells #[.slice A n cap, .int .i64 T, .int .i64 C] 33)).alloc (.cells #[.slice At ts.length tcap, .slice Ac cs.length ccap] 37)) := ((Below.refl _ _).alloc (Nat.le_refl _) _).alloc (by simp) _
  have hck := Lib.hid (asked_any A n cap T C err l _ hn hl (hA.keep hB (Nat.le_refl _)))
  have HB := Lib.hid hB
  by_cases hf : askedL l T C err = 0
  · obtain ⟨hok, he0, he1⟩ := askedL_ok hf
    obtain ⟨b, o, rfl⟩ := hA.some hok.pos
    have n0 : ((w.alloc (.cells #[.slice (some ⟨b, o, none⟩) n cap, .int .i64 T, .int .i64 C] 33)).alloc (.cells #[.slice At ts.length tcap, .slice Ac cs.length ccap] 37)).heap[w.heap.size]? = some (.cells #[.slice (some ⟨b, o, none⟩) n cap, .int .i64 T, .int .i64 C] 33 (0, 0)) := (Below.heap_alloc _ _ _ (by simp)).trans (heap_new_at _ _ _ rfl)
    have u0 := heap_alloc2 w (.cells #[.slice (some ⟨b, o, none⟩) n cap, .int .i64 T, .int .i64 C] 33) (.cells #[.slice At ts.length tcap, .slice Ac cs.length ccap] 37)
    have N0 := Lib.hid n0
    have U0 := Lib.hid u0
    have hn12 : n ≤ 12 := by rw [← hl]; exact hok.len
    have HA := Lib.hid hA
    have HO := Lib.hid hok
    have HL := Lib.hid hl
    have HAS := Lib.hid hf
    have ht0 := hok.t0
    have ht1 := hok.t1
    have hc0 := hok.c0
    have hc1 := hok.c1
    rw [hf] at hck
    clear hB hA hl hok n0 u0 hf
    go_enter Try.func24, Try.ntmps24
    go_wp2_with fail
    refine hck.out.mono ?_
    rintro e w1 ⟨rfl, hb1⟩
    have hB1 : Below w.heap.size w w1 := HB.out.trans (hb1.mono HB.out.size)
    have n1 := (hb1.block w.heap.size (by simp; omega)).trans N0.out
    have u1 := (hb1.block (w.heap.size + 1) (by simp)).trans U0.out
    have c0 : w1.cell? ⟨w.heap.size, 0, none⟩ = some (.slice (some ⟨b, o, none⟩) n cap) := by simp [World.cell?, n1]
    have c1 : w1.cell? ⟨w.heap.size, 1, none⟩ = some (.int .i64 T) := by simp [World.cell?, n1]
    have c2 : w1.cell? ⟨w.heap.size, 2, none⟩ = some (.int .i64 C) := by simp [World.cell?, n1]
    have c3 : w1.cell? ⟨w.heap.size + 1, 0, none⟩ = some (.slice At ts.length tcap) := by simp [World.cell?, u1]
    have c4 : w1.cell? ⟨w.heap.size + 1, 1, none⟩ = some (.slice Ac cs.length ccap) := by simp [World.cell?, u1]
    have hr1 := Lib.hid (rising_any _ ts T w1 (HT.out.keep hB1 (Nat.le_refl _)) htl ht0 ht1)
    have hr2 := Lib.hid (rising_any _ cs C w1 (HC.out.keep hB1 (Nat.le_refl _)) hcl hc0 hc1)
    have HB1 := Lib.hid hB1
    have N1 := Lib.hid n1
    have U1 := Lib.hid u1
    have hs1 : w.heap.size + 2 ≤ w1.heap.size := by have := hb1.size; simp at this; omega
    clear hb1 hB1 n1 u1 hck N0 U0 HB
    cases hrt : risingB ts T with
    | false =>
      rw [hrt] at hr1
      have hcb : cutB l T C err ts cs = false := by unfold cutB; rw [hrt]; simp
      have HCB := Lib.hid hcb
      clear hrt hcb
      go_wp2_with (go_at_call 70; refine hr1.out.mono ?_; rintro e w' ⟨rfl, rfl⟩)
      go_ret
      exact ⟨by rw [HCB.out]; rfl, HB1.out⟩
    | true =>
      rw [hrt] at hr1
      have hlt1 := rises_length hrt ht0
      cases hrc : risingB cs C with
      | false =>
        rw [hrc] at hr2
        have hcb : cutB l T C err ts cs = false := by unfold cutB; rw [hrc]; simp
        have HCB := Lib.hid hcb
        clear hrt hcb hrc
        go_wp2_with fail
        refine hr1.out.mono ?_
        rintro e w' ⟨rfl, rfl⟩
        go_wp2_with fail
        refine hr2.out.mono ?_
        rintro e w' ⟨rfl, rfl⟩
        go_wp2_with fail
        go_ret
        exact ⟨by rw [HCB.out]; rfl, HB1.out⟩
      | true =>
        rw [hrc] at hr2
        have hlc1 := rises_length hrc hc0
        have hcb : cutB l T C err ts cs = !inB ((ts.length : Int) * 36 - (cs.length : Int) * 72) (lowC l (roomLo l err []) (roomHi l err []) ts cs l.length) (highC l (roomLo l err []) (roomHi l err []) ts cs l.length) := by unfold cutB; rw [HAS.out, hrt, hrc]; simp
        have HCB := Lib.hid hcb
        clear hrt hcb hrc
        go_wp2_with fail
        refine hr1.out.mono ?_
        rintro e w' ⟨rfl, rfl⟩
        go_wp2_with fail
        refine hr2.out.mono ?_
        rintro e w' ⟨rfl, rfl⟩
        have lw1 : w.heap.size < w1.heap.size := by omega
        have lw2 : w.heap.size + 1 < w1.heap.size := by omega
        have hB2 : Below w.heap.size w (w1.alloc (.cells #[.int .i64 0, .int .i64 0] 58)) := HB1.out.alloc HB1.out.size _
        have hr := rooms_any b o n cap T C l err (.slice none 0 0) [] (w1.alloc (.cells #[.int .i64 0, .int .i64 0] 58)) HL.out HO.out (HA.out.keep hB2 (Nat.le_refl _)) he0 he1 (IntsAt.nil _) (by simp)
        have HR := Lib.hid hr
        have HB2 := Lib.hid hB2
        clear hr hB2
        go_wp2_with fail
        refine HR.out.mono ?_
        rintro e w2 ⟨rs, rfl, hrs, hb2⟩
        have hb2s := hb2.size
        have hk2 : w2.heap[w1.heap.size]? = some (.cells #[.int .i64 0, .int .i64 0] 58 (0, 0)) := (hb2.block _ (by simp)).trans (Go.heap_alloc_new w1 _)
        have hn2 := (hb2.block w.heap.size (by simp; omega)).trans ((Below.heap_alloc _ _ _ lw1).trans N1.out)
        have hu2 := (hb2.block (w.heap.size + 1) (by simp; omega)).trans ((Below.heap_alloc _ _ _ lw2).trans U1.out)
        have hB3 : Below w.heap.size w w2 := HB2.out.trans (hb2.mono HB2.out.size)
        simp only [World.size_alloc] at hb2s
        obtain ⟨w3, hw3⟩ : ∃ w3, (w2.alloc (.cells zeros24 109)).setRow w2.heap.size rs = w3 := ⟨_, rfl⟩
        have hzr : (w2.alloc (.cells zeros24 109)).heap[w2.heap.size]? = some (.cells zeros24 109 (0, 0)) := Go.heap_alloc_new _ _
        have hzs : zeros24.size = rs.size := by rw [hrs.size24]; rfl
        have hr3 : w3.heap[w2.heap.size]? = some (.cells rs 109 (0, 0)) := by rw [← hw3]; exact setRow_heap _ _ zeros24 rs 109 (0, 0) hzr
        have ho3 : ∀ j, j < w2.heap.size → w3.heap[j]? = w2.heap[j]? := fun j hj => by rw [← hw3, setRow_other _ _ _ _ (by omega)]; exact Below.heap_alloc _ _ _ hj
        have hB4 : Below w.heap.size w w3 := hB3.trans ⟨by rw [← hw3]; rfl, by rw [← hw3]; rfl, by rw [← hw3]; rfl, by rw [← hw3]; simp, fun j hj => ho3 j (Nat.lt_of_lt_of_le hj hB3.size)⟩
        have hk3 := (ho3 _ (by omega)).trans hk2
        have hn3 := (ho3 _ (by omega)).trans hn2
        have hu3 := (ho3 _ (by omega)).trans hu2
        have HW3 := Lib.hid hw3
        have HZR := Lib.hid hzr
        have HZS := Lib.hid hzs
        have HRS := Lib.hid hrs
        have HK3 := Lib.hid hk3
        have HN3 := Lib.hid hn3
        have HU3 := Lib.hid hu3
        have HR3 := Lib.hid hr3
        have HB4 := Lib.hid hB4
        have s0 : w2.cell? ⟨w.heap.size, 0, none⟩ = some (.slice (some ⟨b, o, none⟩) n cap) := by simp [World.cell?, hn2]
        have s0' : w3.cell? ⟨w.heap.size, 0, none⟩ = some (.slice (some ⟨b, o, none⟩) n cap) := by simp [World.cell?, hn3]
        clear hw3 hzr hzs hrs hk2 hn2 hu2 hr3 ho3 hB3 hB4 hk3 hn3 hu3 hb2 HR HB2 c0 c1 c2 c3 c4 hr1 hr2 N1 U1
        unfold zeros24 at HZR HZS HW3
        go_wp2_with (refine wpList_store_row rfl 109 _ _ rfl _ rs rfl rfl 109 _ HZR.out HRS.out.size HZS.out (roomsV_one HRS.out) ?_; rw [HW3.out])
        obtain ⟨Bn, hBn⟩ : ∃ Bn, w.heap.size = Bn := ⟨_, rfl⟩
        obtain ⟨Bu, hBu⟩ : ∃ Bu, w.heap.size + 1 = Bu := ⟨_, rfl⟩
        obtain ⟨Bc, hBc⟩ : ∃ Bc, w1.heap.size = Bc := ⟨_, rfl⟩
        obtain ⟨Br, hBr⟩ : ∃ Br, w2.heap.size = Br := ⟨_, rfl⟩
        have o1 : w.heap.size ≤ Bn := by omega
        have o2 : Bn < Bu := by omega
        have o3 : Bu < Bc := by omega
        have o4 : Bc < Br := by omega
        rw [hBu] at HU3 ⊢
        rw [hBn] at HN3 ⊢
        rw [hBc] at HK3 ⊢
        rw [hBr] at HR3 ⊢
        clear hBn hBu hBc hBr s0 s0' HW3 HZR HZS HB1 hs1 lw1 lw2 hb2s
        go_wp2_with fail
        go_loopw [49] (KRel l err n ts cs w Bn Bu Bc Br (.cells #[.slice (some ⟨b, o, none⟩) n cap, .int .i64 T, .int .i64 C] 33 (0, 0)) (.cells #[.slice At ts.length tcap, .slice Ac cs.length ccap] 37 (0, 0)) rs) (fun i _ => n - (intOf i).toNat)
        case atStart => exact ⟨0, by omega, rfl, HK3.out, HN3.out, HU3.out, HR3.out, HB4.out⟩
        case round =>
          clear HK3 HN3 HU3 HR3 HB4
          obtain ⟨k, hk, rfl, hK, hN, hU, hR, hBe⟩ := hrel
          have hrk := rooms_ok HO.out he0 []
          have hbd := lowC_bd l (roomLo l err []) (roomHi l err []) ts cs k (fun i hi => ⟨hrk.lo0 i (by have := HL.out; omega), hrk.le i (by have := HL.out; omega), hrk.hi1 i (by have := HL.out; omega)⟩)
          by_cases hlt : k < n
          · have hlt' : decide ((k : Int) < (n : Int)) = true := by simpa using hlt
            have hlk : k < l.length := by rw [HL.out]; exact hlt
            have hAw := HA.out.keep hBe (Nat.le_refl _)
            obtain ⟨b', o', hAe, hAs⟩ := hAw.resolve_left (fun h => by rw [h] at hlk; simp at hlk)
            obtain ⟨rfl, rfl⟩ : b = b' ∧ o = o' := by simpa using hAe
            obtain ⟨ak0, ak1, ak2, ak3⟩ := hAs k hlk
            have htk : tOf l k = l[k].t := by simp [tOf, hlk]
            have hck2 : cOf l k = l[k].c := by simp [cOf, hlk]
            have hlo := hrk.lo0 k hlk
            have hle := hrk.le k hlk
            have hhi := hrk.hi1 k hlk
            obtain ⟨a, ha⟩ : ∃ a, l[k] = a := ⟨_, rfl⟩
            rw [ha] at ak0 ak1 ak2 ak3 htk hck2
            have hsl : lowC l (roomLo l err []) (roomHi l err []) ts cs (k + 1) = lowC l (roomLo l err []) (roomHi l err []) ts cs k + (if ts.contains a.t && !cs.contains a.c then roomLo l err [] k else if cs.contains a.c && !ts.contains a.t then -roomHi l err [] k else 0) := by rw [← htk, ← hck2]; rfl
            have hsh : highC l (roomLo l err []) (roomHi l err []) ts cs (k + 1) = highC l (roomLo l err []) (roomHi l err []) ts cs k + (if ts.contains a.t && !cs.contains a.c then roomHi l err [] k else if cs.contains a.c && !ts.contains a.t then -roomLo l err [] k else 0) := by rw [← htk, ← hck2]; rfl
            have HSL := Lib.hid hsl
            have HSH := Lib.hid hsh
            obtain ⟨L, hL⟩ : ∃ L, roomLo l err [] k = L := ⟨_, rfl⟩
            obtain ⟨H, hH⟩ : ∃ H, roomHi l err [] k = H := ⟨_, rfl⟩
            have hRA : RoomsAt wr Br (roomLo l err []) (roomHi l err []) := ⟨rs, hR, HRS.out⟩
            have HRA := Lib.hid hRA
            have HL2 := Lib.hid hL
            have HH2 := Lib.hid hH
            rw [hL] at hlo hle
            rw [hH] at hle hhi
            have HK := Lib.hid hK
            have HN := Lib.hid hN
            have HU := Lib.hid hU
            have HR := Lib.hid hR
            have HBe := Lib.hid hBe
            clear hK hN hU hR hBe hrk hsl hsh hL hH hRA htk hck2 ha hAs hAe hAw
            go_wp2_with fail
            have hblk := Go.heap_alloc_new wr (.cells #[.int .i64 a.t, .int .i64 a.c, .int .i64 a.r, .int .i64 a.g] 104)
            have hBw : Below wr.heap.size wr (wr.alloc (.cells #[.int .i64 a.t, .int .i64 a.c, .int .i64 a.r, .int .i64 a.g] 104)) := (Below.refl _ _).alloc (Nat.le_refl _) _
            generalize wr.alloc (.cells #[.int .i64 a.t, .int .i64 a.c, .int .i64 a.r, .int .i64 a.g] 104) = w5 at hblk hBw ⊢
            obtain ⟨Ba, hBa⟩ : ∃ Ba, wr.heap.size = Ba := ⟨_, rfl⟩
            have lR : Br < wr.heap.size := (Array.getElem?_eq_some_iff.1 HR.out).1
            have hRA5 := HRA.out.of_block (hBw.block Br lR)
            have hR5 := (hBw.block Br lR).trans HR.out
            have hK5 := (hBw.block Bc (by omega)).trans HK.out
            have hN5 := (hBw.block Bn (by omega)).trans HN.out
            have hU5 := (hBw.block Bu (by omega)).trans HU.out
            have hB5 : Below w.heap.size w w5 := HBe.out.trans (hBw.mono HBe.out.size)
            rw [hBa] at hblk lR ⊢
            have x0 : w5.cell? ⟨Bu, 0, none⟩ = some (.slice At ts.length tcap) := by simp [World.cell?, hU5]
            have x1 : w5.cell? ⟨Bu, 1, none⟩ = some (.slice Ac cs.length ccap) := by simp [World.cell?, hU5]
            have x2 : w5.cell? ⟨Ba, 0, none⟩ = some (.int .i64 a.t) := by simp [World.cell?, hblk]
            have x3 : w5.cell? ⟨Ba, 1, none⟩ = some (.int .i64 a.c) := by simp [World.cell?, hblk]
            have hcu := Lib.hid (contains_any _ ts a.t w5.drew (HT.out.keep hB5.drew (Nat.le_refl _)) htl)
            have hcv := Lib.hid (contains_any _ cs a.c w5.drew (HC.out.keep hB5.drew (Nat.le_refl _)) hcl)
            have HRA5 := Lib.hid hRA5
            have HR5 := Lib.hid hR5
            have HK5 := Lib.hid hK5
            have HN5 := Lib.hid hN5
            have HU5 := Lib.hid hU5
            have HB5 := Lib.hid hB5
            clear hRA5 hR5 hK5 hN5 hU5 hB5 hBa hblk hBw HRA HR HK HN HU HBe ak0 ak1 ak2 ak3
            obtain ⟨ou, hou⟩ : ∃ ou, ts.contains a.t = ou := ⟨_, rfl⟩
            obtain ⟨inn, hinn⟩ : ∃ inn, cs.contains a.c = inn := ⟨_, rfl⟩
            rw [hou] at hcu HSL HSH
            rw [hinn] at hcv HSL HSH
            clear hou hinn
            refine wp_region_held_drew (S := fun X => X.cell? ⟨Bu, 0, none⟩ = some (.slice At ts.length tcap) ∧ X.cell? ⟨Bu, 1, none⟩ = some (.slice Ac cs.length ccap) ∧ X.cell? ⟨Ba, 0, none⟩ = some (.int .i64 a.t) ∧ X.cell? ⟨Ba, 1, none⟩ = some (.int .i64 a.c)) (by kernel_rfl) (⟨x0, x1, x2, x3⟩) (fun hS0 => ?_)
            refine wpAnyH_take (i := 0) (oi := { dst := some 54, op := Op.fieldAddr 37 (Operand.tmp 5) 0, type := 0, pos := "ask.go:229", after := #[], guard := none }) (v := ?_) rfl (by kernel_rfl) (by kernel_rfl) (by kernel_rfl) (fun _ _ _ h => h) (Or.inl ⟨by rfl, ?_⟩) hS0 ?_
            rotate_left
            · intro X hX
              obtain ⟨x0, x1, x2, x3⟩ := hX
              go_simp
              try with_reducible rfl
            simp only [Act.put, List.setIfInBounds_toArray, List.set_cons_zero, List.set_cons_succ, Array.toArray_toList]
            refine wpAnyH_take (i := 1) (oi := { dst := some 55, op := Op.load 25 (Operand.tmp 54), type := 25, pos := "ask.go:229", after := #[{ on := 0, ground := Ground.data }], guard := none }) (v := ?_) rfl (by kernel_rfl) (by kernel_rfl) (by kernel_rfl) (fun _ _ _ h => h) (Or.inl ⟨by rfl, ?_⟩) hS0 ?_
            rotate_left
            · intro X hX
              obtain ⟨x0, x1, x2, x3⟩ := hX
              go_simp
              try with_reducible rfl
            simp only [Act.put, List.setIfInBounds_toArray, List.set_cons_zero, List.set_cons_succ, Array.toArray_toList]
            refine wpAnyH_take (i := 2) (oi := { dst := some 56, op := Op.fieldAddr 104 (Operand.tmp 11) 0, type := 0, pos := "ask.go:229", after := #[], guard := none }) (v := ?_) rfl (by kernel_rfl) (by kernel_rfl) (by kernel_rfl) (fun _ _ _ h => h) (Or.inl ⟨by rfl, ?_⟩) hS0 ?_
            rotate_left
            · intro X hX
              obtain ⟨x0, x1, x2, x3⟩ := hX
              go_simp
              try with_reducible rfl
            simp only [Act.put, List.setIfInBounds_toArray, List.set_cons_zero, List.set_cons_succ, Array.toArray_toList]
            refine wpAnyH_take (i := 3) (oi := { dst := some 57, op := Op.load 3 (Operand.tmp 56), type := 3, pos := "ask.go:229", after := #[{ on := 2, ground := Ground.data }], guard := none }) (v := ?_) rfl (by kernel_rfl) (by kernel_rfl) (by kernel_rfl) (fun _ _ _ h => h) (Or.inl ⟨by rfl, ?_⟩) hS0 ?_
            rotate_left
            · intro X hX
              obtain ⟨x0, x1, x2, x3⟩ := hX
              go_simp
              try with_reducible rfl
            simp only [Act.put, List.setIfInBounds_toArray, List.set_cons_zero, List.set_cons_succ, Array.toArray_toList]
            refine wpAnyH_take (i := 5) (oi := { dst := some 59, op := Op.fieldAddr 37 (Operand.tmp 5) 1, type := 0, pos := "ask.go:229", after := #[], guard := none }) (v := ?_) rfl (by kernel_rfl) (by kernel_rfl) (by kernel_rfl) (fun _ _ _ h => h) (Or.inl ⟨by rfl, ?_⟩) hS0 ?_
            rotate_left
            · intro X hX
              obtain ⟨x0, x1, x2, x3⟩ := hX
              go_simp
              try with_reducible rfl
            simp only [Act.put, List.setIfInBounds_toArray, List.set_cons_zero, List.set_cons_succ, Array.toArray_toList]
            refine wpAnyH_take (i := 6) (oi := { dst := some 60, op := Op.load 25 (Operand.tmp 59), type := 25, pos := "ask.go:229", after := #[{ on := 5, ground := Ground.data }], guard := none }) (v := ?_) rfl (by kernel_rfl) (by kernel_rfl) (by kernel_rfl) (fun _ _ _ h => h) (Or.inl ⟨by rfl, ?_⟩) hS0 ?_
            rotate_left
            · intro X hX
              obtain ⟨x0, x1, x2, x3⟩ := hX
              go_simp
              try with_reducible rfl
            simp only [Act.put, List.setIfInBounds_toArray, List.set_cons_zero, List.set_cons_succ, Array.toArray_toList]
            refine wpAnyH_take (i := 7) (oi := { dst := some 61, op := Op.fieldAddr 104 (Operand.tmp 11) 1, type := 0, pos := "ask.go:229", after := #[], guard := none }) (v := ?_) rfl (by kernel_rfl) (by kernel_rfl) (by kernel_rfl) (fun _ _ _ h => h) (Or.inl ⟨by rfl, ?_⟩) hS0 ?_
            rotate_left
            · intro X hX
              obtain ⟨x0, x1, x2, x3⟩ := hX
              go_simp
              try with_reducible rfl
            simp only [Act.put, List.setIfInBounds_toArray, List.set_cons_zero, List.set_cons_succ, Array.toArray_toList]
            refine wpAnyH_take (i := 8) (oi := { dst := some 62, op := Op.load 3 (Operand.tmp 61), type := 3, pos := "ask.go:229", after := #[{ on := 7, ground := Ground.data }], guard := none }) (v := ?_) rfl (by kernel_rfl) (by kernel_rfl) (by kernel_rfl) (fun _ _ _ h => h) (Or.inl ⟨by rfl, ?_⟩) hS0 ?_
            rotate_left
            · intro X hX
              obtain ⟨x0, x1, x2, x3⟩ := hX
              go_simp
              try with_reducible rfl
            simp only [Act.put, List.setIfInBounds_toArray, List.set_cons_zero, List.set_cons_succ, Array.toArray_toList]
            refine wpAnyH_ready (rs := [4]) (by kernel_rfl) (by simp) (AllReadyH.cons (o := { dst := some 58, op := Op.call { callee := Callee.value (Operand.func 71), args := #[Operand.tmp 55, Operand.tmp 57], argTypes := #[25, 3] }, type := 4, pos := "ask.go:229", after := #[{ on := 1, ground := Ground.data }, { on := 3, ground := Ground.data }], guard := none }) rfl (fun K hK => ?_) AllReadyH.nil)
            go_simp
            refine hcu.out.mono ?_
            rintro e w' ⟨rfl, rfl⟩
            go_wp2_with fail
            refine hK.out _ _ (hS0) (fun hS1 => ?_)
            clear hS0 hK K
            refine wpAnyH_ready (rs := [9]) (by kernel_rfl) (by simp) (AllReadyH.cons (o := { dst := some 63, op := Op.call { callee := Callee.value (Operand.func 71), args := #[Operand.tmp 60, Operand.tmp 62], argTypes := #[25, 3] }, type := 4, pos := "ask.go:229", after := #[{ on := 6, ground := Ground.data }, { on := 8, ground := Ground.data }, { on := 4, ground := Ground.chain }], guard := none }) rfl (fun K hK => ?_) AllReadyH.nil)
            go_simp
            refine hcv.out.mono ?_
            rintro e w' ⟨rfl, rfl⟩
            go_wp2_with fail
            refine hK.out _ _ (hS1) (fun hS2 => ?_)
            clear hS1 hK K
            refine wpAnyH_take (i := 10) (oi := { dst := some 12, op := Op.assign (Operand.tmp 58), type := 4, pos := "ask.go:229", after := #[{ on := 4, ground := Ground.data }, { on := 9, ground := Ground.chain }, { on := 0, ground := Ground.phase }, { on := 1, ground := Ground.phase }, { on := 2, ground := Ground.phase }, { on := 3, ground := Ground.phase }, { on := 4, ground := Ground.phase }, { on := 5, ground := Ground.textOnly Departure.lateStores }, { on := 6, ground := Ground.textOnly Departure.lateStores }, { on := 7, ground := Ground.textOnly Departure.lateStores }, { on := 8, ground := Ground.textOnly Departure.lateStores }, { on := 9, ground := Ground.textOnly Departure.lateStoresUnsure }], guard := none }) (v := ?_) rfl (by kernel_rfl) (by kernel_rfl) (by kernel_rfl) (fun _ _ _ h => h) (Or.inl ⟨by rfl, ?_⟩) hS2 ?_
            rotate_left
            · intro X hX
              obtain ⟨x0, x1, x2, x3⟩ := hX
              go_simp
              try with_reducible rfl
            simp only [Act.put, List.setIfInBounds_toArray, List.set_cons_zero, List.set_cons_succ, Array.toArray_toList]
            refine wpAnyH_take (i := 11) (oi := { dst := some 13, op := Op.assign (Operand.tmp 63), type := 4, pos := "ask.go:229", after := #[{ on := 9, ground := Ground.data }, { on := 10, ground := Ground.chain }, { on := 0, ground := Ground.phase }, { on := 1, ground := Ground.phase }, { on := 2, ground := Ground.phase }, { on := 3, ground := Ground.phase }, { on := 4, ground := Ground.phase }, { on := 5, ground := Ground.phase }, { on := 6, ground := Ground.phase }, { on := 7, ground := Ground.phase }, { on := 8, ground := Ground.phase }, { on := 9, ground := Ground.phase }, { on := 10, ground := Ground.phase }], guard := none }) (v := ?_) rfl (by kernel_rfl) (by kernel_rfl) (by kernel_rfl) (fun _ _ _ h => h) (Or.inl ⟨by rfl, ?_⟩) hS2 ?_
            rotate_left
            · intro X hX
              obtain ⟨x0, x1, x2, x3⟩ := hX
              go_simp
              try with_reducible rfl
            simp only [Act.put, List.setIfInBounds_toArray, List.set_cons_zero, List.set_cons_succ, Array.toArray_toList]
            refine wpAnyH_done (by kernel_rfl) ?_ _
            clear hS2
            try simp only [Act.put, List.setIfInBounds_toArray, List.set_cons_zero, List.set_cons_succ]
            obtain ⟨w6, hw6⟩ : ∃ w6, w5.drew = w6 := ⟨_, rfl⟩
            have hRA6 : RoomsAt w6 Br (roomLo l err []) (roomHi l err []) := HRA5.out.of_block (by rw [← hw6]; rfl)
            have hR6 : w6.heap[Br]? = some (.cells rs 109 (0, 0)) := by rw [← hw6]; exact HR5.out
            have hK6 := HK5.out
            rw [show w5.heap = w6.heap by rw [← hw6]; rfl] at hK6
            have hN6 := HN5.out
            rw [show w5.heap = w6.heap by rw [← hw6]; rfl] at hN6
            have hU6 := HU5.out
            rw [show w5.heap = w6.heap by rw [← hw6]; rfl] at hU6
            have hB6 : Below w.heap.size w w6 := by rw [← hw6]; exact HB5.out.drew
            rw [hw6]
            clear HRA5 HR5 HK5 HN5 HU5 HB5 hw6 hcu hcv x0 x1 x2 x3
            obtain ⟨P, hP⟩ : ∃ P, lowC l (roomLo l err []) (roomHi l err []) ts cs k = P := ⟨_, rfl⟩
            obtain ⟨Q, hQ⟩ : ∃ Q, highC l (roomLo l err []) (roomHi l err []) ts cs k = Q := ⟨_, rfl⟩
            rw [hP, hQ] at hK6 hbd
            rw [hP] at HSL
            rw [hQ] at HSH
            rw [HL2.out, HH2.out] at HSL HSH
            have r0 := (hRA6.cells (i := k) (by omega)).1
            have r1 := (hRA6.cells (i := k) (by omega)).2
            rw [HL2.out] at r0
            rw [HH2.out] at r1
            have k0 : w6.cell? ⟨Bc, 0, none⟩ = some (.int .i64 P) := by simp [World.cell?, hK6]
            have k1 : w6.cell? ⟨Bc, 1, none⟩ = some (.int .i64 Q) := by simp [World.cell?, hK6]
            have z0 : w6.frozen? ⟨Bc, 0, none⟩ = false := by simp [World.frozen?, hK6]
            have z1 : w6.frozen? ⟨Bc, 1, none⟩ = false := by simp [World.frozen?, hK6]
            have i1 : (0 : Int) ≤ (k : Int) := by omega
            have i2 : (k : Int) < 12 := by omega
            have HK6 := Lib.hid hK6
            have HN6 := Lib.hid hN6
            have HU6 := Lib.hid hU6
            have HR6 := Lib.hid hR6
            have HB6 := Lib.hid hB6
            clear hRA6 hR6 hK6 hN6 hU6 hB6 hP hQ
            have hnb : Br ≠ Bc := by omega
            cases ou <;> cases inn
            · have hsl : lowC l (roomLo l err []) (roomHi l err []) ts cs (k + 1) = P := by rw [HSL.out]; simp
              have hsh : highC l (roomLo l err []) (roomHi l err []) ts cs (k + 1) = Q := by rw [HSH.out]; simp
              have HSL2 := Lib.hid hsl
              have HSH2 := Lib.hid hsh
              clear hsl hsh HSL HSH
              go_wp2_with fail
              go_roundw
              case rel => exact ⟨k + 1, by omega, by go_num, by rw [HSL2.out, HSH2.out]; exact HK6.out, HN6.out, HU6.out, HR6.out, HB6.out⟩
              case measure => simp [intOf]; omega
            · have hsl : lowC l (roomLo l err []) (roomHi l err []) ts cs (k + 1) = P - H := by rw [HSL.out]; simp; omega
              have hsh : highC l (roomLo l err []) (roomHi l err []) ts cs (k + 1) = Q - L := by rw [HSH.out]; simp; omega
              have HSL2 := Lib.hid hsl
              have HSH2 := Lib.hid hsh
              clear hsl hsh HSL HSH
              have wp1 : IntKind.i64.wrap (P - H) = P - H := IntWalk.i64_in _ (by omega)
              have wp2 : IntKind.i64.wrap (Q - L) = Q - L := IntWalk.i64_in _ (by omega)
              go_wp2_with fail
              go_region
              have hs7 : ∀ j, j ≠ Bc → (((w6.setCell ⟨Bc, 0, none⟩ (.int .i64 (P - H))).setCell ⟨Bc, 1, none⟩ (.int .i64 (Q - L))).drew).heap[j]? = w6.heap[j]? := fun j hj => (Below.heap_setCell _ _ _ _ hj).trans (Below.heap_setCell _ _ _ _ hj)
              have hK7 : (((w6.setCell ⟨Bc, 0, none⟩ (.int .i64 (P - H))).setCell ⟨Bc, 1, none⟩ (.int .i64 (Q - L))).drew).heap[Bc]? = some (.cells #[.int .i64 (P - H), .int .i64 (Q - L)] 58 (0, 0)) := set_two HK6.out _ _
              have hN7 := (hs7 Bn (by omega)).trans HN6.out
              have hU7 := (hs7 Bu (by omega)).trans HU6.out
              have hR7 := (hs7 Br hnb).trans HR6.out
              have hB7 : Below w.heap.size w (((w6.setCell ⟨Bc, 0, none⟩ (.int .i64 (P - H))).setCell ⟨Bc, 1, none⟩ (.int .i64 (Q - L))).drew) := ((HB6.out.setCell (by simp; omega) _).setCell (by simp; omega) _).drew
              clear hs7
              generalize ((w6.setCell ⟨Bc, 0, none⟩ (.int .i64 (P - H))).setCell ⟨Bc, 1, none⟩ (.int .i64 (Q - L))).drew = w7 at hK7 hN7 hU7 hR7 hB7 ⊢
              have HK7 := Lib.hid hK7
              have HN7 := Lib.hid hN7
              have HU7 := Lib.hid hU7
              have HR7 := Lib.hid hR7
              have HB7 := Lib.hid hB7
              clear hK7 hN7 hU7 hR7 hB7 HK6 HN6 HU6 HR6 HB6 k0 k1 z0 z1 r0 r1 wp1 wp2
              go_wp2_with fail
              go_roundw
              case rel => exact ⟨k + 1, by omega, by go_num, by rw [HSL2.out, HSH2.out]; exact HK7.out, HN7.out, HU7.out, HR7.out, HB7.out⟩
              case measure => simp [intOf]; omega
            · have hsl : lowC l (roomLo l err []) (roomHi l err []) ts cs (k + 1) = P + L := by rw [HSL.out]; simp
              have hsh : highC l (roomLo l err []) (roomHi l err []) ts cs (k + 1) = Q + H := by rw [HSH.out]; simp
              have HSL2 := Lib.hid hsl
              have HSH2 := Lib.hid hsh
              clear hsl hsh HSL HSH
              have wp1 : IntKind.i64.wrap (P + L) = P + L := IntWalk.i64_in _ (by omega)
              have wp2 : IntKind.i64.wrap (Q + H) = Q + H := IntWalk.i64_in _ (by omega)
              go_wp2_with fail
              go_region
              have hs7 : ∀ j, j ≠ Bc → (((w6.setCell ⟨Bc, 0, none⟩ (.int .i64 (P + L))).setCell ⟨Bc, 1, none⟩ (.int .i64 (Q + H))).drew).heap[j]? = w6.heap[j]? := fun j hj => (Below.heap_setCell _ _ _ _ hj).trans (Below.heap_setCell _ _ _ _ hj)
              have hK7 : (((w6.setCell ⟨Bc, 0, none⟩ (.int .i64 (P + L))).setCell ⟨Bc, 1, none⟩ (.int .i64 (Q + H))).drew).heap[Bc]? = some (.cells #[.int .i64 (P + L), .int .i64 (Q + H)] 58 (0, 0)) := set_two HK6.out _ _
              have hN7 := (hs7 Bn (by omega)).trans HN6.out
              have hU7 := (hs7 Bu (by omega)).trans HU6.out
              have hR7 := (hs7 Br hnb).trans HR6.out
              have hB7 : Below w.heap.size w (((w6.setCell ⟨Bc, 0, none⟩ (.int .i64 (P + L))).setCell ⟨Bc, 1, none⟩ (.int .i64 (Q + H))).drew) := ((HB6.out.setCell (by simp; omega) _).setCell (by simp; omega) _).drew
              clear hs7
              generalize ((w6.setCell ⟨Bc, 0, none⟩ (.int .i64 (P + L))).setCell ⟨Bc, 1, none⟩ (.int .i64 (Q + H))).drew = w7 at hK7 hN7 hU7 hR7 hB7 ⊢
              have HK7 := Lib.hid hK7
              have HN7 := Lib.hid hN7
              have HU7 := Lib.hid hU7
              have HR7 := Lib.hid hR7
              have HB7 := Lib.hid hB7
              clear hK7 hN7 hU7 hR7 hB7 HK6 HN6 HU6 HR6 HB6 k0 k1 z0 z1 r0 r1 wp1 wp2
              go_wp2_with fail
              go_roundw
              case rel => exact ⟨k + 1, by omega, by go_num, by rw [HSL2.out, HSH2.out]; exact HK7.out, HN7.out, HU7.out, HR7.out, HB7.out⟩
              case measure => simp [intOf]; omega
            · have hsl : lowC l (roomLo l err []) (roomHi l err []) ts cs (k + 1) = P := by rw [HSL.out]; simp
              have hsh : highC l (roomLo l err []) (roomHi l err []) ts cs (k + 1) = Q := by rw [HSH.out]; simp
              have HSL2 := Lib.hid hsl
              have HSH2 := Lib.hid hsh
              clear hsl hsh HSL HSH
              go_wp2_with fail
              go_roundw
              case rel => exact ⟨k + 1, by omega, by go_num, by rw [HSL2.out, HSH2.out]; exact HK6.out, HN6.out, HU6.out, HR6.out, HB6.out⟩
              case measure => simp [intOf]; omega
          · have hlt' : decide ((k : Int) < (n : Int)) = false := by simpa using hlt
            obtain rfl : k = n := by omega
            obtain ⟨P, hP⟩ : ∃ P, lowC l (roomLo l err []) (roomHi l err []) ts cs k = P := ⟨_, rfl⟩
            obtain ⟨Q, hQ⟩ : ∃ Q, highC l (roomLo l err []) (roomHi l err []) ts cs k = Q := ⟨_, rfl⟩
            rw [hP, hQ] at hK
            have k0 : wr.cell? ⟨Bc, 0, none⟩ = some (.int .i64 P) := by simp [World.cell?, hK]
            have k1 : wr.cell? ⟨Bc, 1, none⟩ = some (.int .i64 Q) := by simp [World.cell?, hK]
            have hcb2 : cutB l T C err ts cs = !inB ((ts.length : Int) * 36 - (cs.length : Int) * 72) P Q := by rw [HCB.out, HL.out, hP, hQ]
            have HCB2 := Lib.hid hcb2
            have HBe := Lib.hid hBe
            clear hcb2 hP hQ hK hN hU hR hBe hrk hbd HCB
            go_wp2_with (go_at_call 68; refine (within_b ((ts.length : Int) * 36 - (cs.length : Int) * 72) P Q _).mono ?_; rintro e w' ⟨rfl, rfl⟩)
            go_ret
            exact ⟨by rw [HCB2.out]; rfl, HBe.out⟩
  · have htb : cutB l T C err ts cs = false := by unfold cutB; simp [hf]
    have HTB := Lib.hid htb
    have hne : (askedL l T C err != 0) = true := by simpa using hf
    clear hB hA hl hf htb
    go_enter Try.func24, Try.ntmps24
    go_wp2_with (go_at_call 66; refine hck.out.mono ?_; rintro e w' ⟨rfl, hb1⟩)
    go_ret
    exact ⟨by rw [HTB.out]; rfl, HB.out.trans (hb1.mono HB.out.size)⟩
end Go.Proofs.Ytkloaeaepjoijaa

/-
  LampLeft: some, Shorter, the walk.
-/
import Derived.Test.YtefhdcecbmgljaaDipped
import Derived.Test.YtefhdcecbmgljaaRefG
set_option linter.all false
namespace Go.Proofs.Ytefhdcecbmgljaa
open Go.RowKit Go.WalkArith

/-- The bits of some numbers. -/
def orL (xs : List Int) (k : Nat) : Nat := (xs.take k).foldl (fun a x => a ||| 2 ^ x.toNat) 0

theorem orL_succ {xs : List Int} {k : Nat} (h : k < xs.length) : orL xs (k + 1) = orL xs k ||| 2 ^ xs[k].toNat := by
  unfold orL
  rw [List.take_succ_eq_append_getElem h, List.foldl_append]
  rfl
theorem orL_bit {xs : List Int} (h0 : ∀ x ∈ xs, 0 ≤ x) (i : Nat) : ∀ k, k ≤ xs.length → (orL xs k).testBit i = (xs.take k).contains (i : Int) := by
  intro k
  induction k with
  | zero => intro _; simp [orL]
  | succ k ih =>
    intro hk
    rw [orL_succ (by omega), Nat.testBit_or, ih (by omega), List.take_succ_eq_append_getElem (by omega)]
    rw [Bool.eq_iff_iff]
    have hx := h0 xs[k] (List.getElem_mem (by omega))
    simp only [Bool.or_eq_true, Nat.testBit_two_pow, List.contains_iff_mem, List.mem_append, List.mem_singleton, decide_eq_true_eq]
    constructor
    · rintro (h | h)
      · exact .inl h
      · exact .inr (by omega)
    · rintro (h | h)
      · exact .inl h
      · exact .inr (by omega)
theorem orL_lt {xs : List Int} {T : Nat} (h0 : ∀ x ∈ xs, 0 ≤ x ∧ x < T) : ∀ k, k ≤ xs.length → orL xs k < 2 ^ T := by
  intro k
  induction k with
  | zero => intro _; exact Nat.two_pow_pos T
  | succ k ih =>
    intro hk
    rw [orL_succ (by omega)]
    have hx := h0 xs[k] (List.getElem_mem (by omega))
    exact Nat.or_lt_two_pow (ih (by omega)) (Nat.pow_lt_pow_right (by decide) (by omega))

theorem shl_at12 {p : Nat} (hp : p ≤ 12) : wrap64 (2 ^ p) = ((2 ^ p : Nat) : Int) := by
  have key : ∀ y : Fin 13, wrap64 (2 ^ y.1) = ((2 ^ y.1 : Nat) : Int) := by decide +kernel
  exact key ⟨p, by omega⟩

theorem or_small {a b : Nat} (ha : a < 2 ^ 20) (hb : b < 2 ^ 20) : bits BinOp.or IntKind.i64 (a : Int) (b : Int) = ((a ||| b : Nat) : Int) := by
  have h := Nat.or_lt_two_pow ha hb
  unfold bits
  simp only [BitVec.ofInt_natCast, BitVec.toNat_or, BitVec.toNat_ofNat]
  rw [Nat.mod_eq_of_lt (a := a) (Nat.lt_of_lt_of_le ha (by decide)), Nat.mod_eq_of_lt (a := b) (Nat.lt_of_lt_of_le hb (by decide))]
  exact IntWalk.i64_in _ (by omega)
theorem shl_small {y : Nat} (hy : y ≤ 12) : wrap64 (2 ^ y) = ((2 ^ y : Nat) : Int) := shl_at12 hy

theorem Ups.nth {n : Nat} : ∀ {xs : List Int} {s : Nat}, Ups n s xs → ∀ k (h : k < xs.length), ∃ y : Nat, xs[k] = y ∧ s + k ≤ y ∧ y < n ∧ ∀ j (hj : j < k), xs[j]'(by omega) < xs[k] := by
  intro xs
  induction xs with
  | nil => intro s _ k h; simp at h
  | cons x xs ih =>
    rintro s ⟨m, rfl, h1, h2, h3⟩ k h
    cases k with
    | zero => exact ⟨m, rfl, by omega, h2, fun j hj => by omega⟩
    | succ k =>
      obtain ⟨y, e, a, b, c⟩ := ih h3 k (by simpa using h)
      refine ⟨y, by simpa using e, by omega, b, fun j hj => ?_⟩
      cases j with
      | zero => simp only [List.getElem_cons_zero, List.getElem_cons_succ]; omega
      | succ j => simp only [List.getElem_cons_succ]; exact c j (by omega)
theorem orL_bits {n : Nat} {xs : List Int} (hn : n ≤ 16) (h : Ups n 0 xs) : bitsL (orL xs xs.length) = xs ∧ orL xs xs.length < 2 ^ n := by
  have h0 : ∀ x ∈ xs, 0 ≤ x ∧ x < (n : Int) := fun x hx => by obtain ⟨k, rfl, _, hk⟩ := h.mem x hx; omega
  have hlt := orL_lt h0 xs.length (Nat.le_refl _)
  refine ⟨(bitsL_ups hlt).ext h fun y => ?_, hlt⟩
  rw [bitsL_mem]
  have hb := fun i => orL_bit (fun x hx => (h0 x hx).1) i xs.length (Nat.le_refl _)
  rw [List.take_length] at hb
  constructor
  · rintro ⟨i, rfl, _, hi⟩; rw [hb] at hi; simpa using hi
  · intro hy
    obtain ⟨k, rfl, _, hk⟩ := h.mem y hy
    exact ⟨k, rfl, by omega, by rw [hb]; simpa using hy⟩

theorem apart_types {w : World} {b b' e e' s s' n m : Nat} {v u : Value} {xs ys : List Value} (h : w.ownsRow b e s v n xs) (k : w.ownsRow b' e' s' u m ys) (he : e ≠ e') : v.ownBlock = none ∨ v.ownBlock ≠ u.ownBlock := by
  obtain ⟨_, ⟨rfl, _⟩ | ⟨g, cap, cur, rfl, _, h1, _⟩⟩ := h
  · exact .inl rfl
  · obtain ⟨_, ⟨rfl, _⟩ | ⟨g', cap', cur', rfl, _, k1, _⟩⟩ := k
    · right; simp [Value.ownBlock]
    · right
      intro hh
      have e1 : g = g' := by simpa [Value.ownBlock] using hh
      subst e1
      rw [h1] at k1
      cases k1
      exact he rfl

theorem bit_zero2 (t k : Nat) : (((t : Int) / 2 ^ k).tmod 2 == 0) = !t.testBit k := by
  have e : ((t : Int) / 2 ^ k).tmod 2 = ((t / 2 ^ k % 2 : Nat) : Int) := by
    have h2 : ((2 : Int) ^ k) = ((2 ^ k : Nat) : Int) := by simp
    rw [h2, ← Int.natCast_ediv]
    generalize t / 2 ^ k = q
    rw [Int.tmod_eq_emod_of_nonneg (by omega)]
    omega
  rw [e, Nat.testBit_eq_decide_div_mod_eq]
  by_cases h : t / 2 ^ k % 2 = 1
  · rw [h]; rfl
  · have h0 : t / 2 ^ k % 2 = 0 := by omega
    rw [h0]; rfl

/-- The indexes of bits, below a bound. -/
def outTo (tb m : Nat) : List Int := ((List.range m).filter tb.testBit).map fun i : Nat => (i : Int)
theorem outTo_succ (tb m : Nat) : outTo tb (m + 1) = if tb.testBit m then outTo tb m ++ [(m : Int)] else outTo tb m := by
  unfold outTo
  rw [List.range_succ, List.filter_append, List.map_append]
  cases h : tb.testBit m with
  | true => simp [h]
  | false => simp [h]
theorem outTo_len (tb m : Nat) : (outTo tb m).length ≤ m := by
  unfold outTo
  rw [List.length_map]
  exact Nat.le_trans (List.length_filter_le _ _) (by simp)
theorem outTo_ups (tb n : Nat) : Ups n 0 (outTo tb n) := by
  have h := ups_filter n tb.testBit n 0 (by omega)
  unfold outTo
  rw [List.range_eq_range']
  exact h
theorem outTo_has {tb n i : Nat} (h : i < n) : (outTo tb n).contains (i : Int) = tb.testBit i := by
  rw [Bool.eq_iff_iff]
  simp only [outTo, List.contains_iff_mem, List.mem_map, List.mem_filter, List.mem_range]
  constructor
  · rintro ⟨j, ⟨_, h2⟩, e⟩
    have : j = i := by omega
    rw [← this]; exact h2
  · intro h2; exact ⟨i, ⟨h, h2⟩, rfl⟩
theorem kept_out {dips : List Dp} {tb : Nat} (hd : dips.length ≤ 16) : keptL dips (bitsL tb) = keptL dips (outTo tb dips.length) := by
  have key : ∀ m, m ≤ dips.length → keptTo dips (bitsL tb) m = keptTo dips (outTo tb dips.length) m := by
    intro m
    induction m with
    | zero => intro _; rfl
    | succ m ih => intro h; rw [keptTo_succ, keptTo_succ, ih (by omega), bitsL_has (by omega), outTo_has (by omega)]
  exact key _ (Nat.le_refl _)
theorem kept_sub {dips : List Dp} {out : List Int} {d : Dp} (h : d ∈ keptL dips out) : d ∈ dips := by
  obtain ⟨i, h1, _, h3⟩ := keptL_mem.1 h
  rw [← h3]; simp [h1]
theorem kept_valid {s : St} {left : List Int} {bits : Int} {dips : List Dp} {c k : List Int} {out : List Int} (h : DipOk s left bits dips) (hp : planL s c k = 0) (hl : dips.length ≤ 4) : dippedL s c k (keptL dips out) = 0 :=
  dippedL_of hp (by have := keptTo_len dips out dips.length; unfold keptL; omega) fun d hd => (h d (kept_sub hd)).1
theorem lessB_bef (a b : List Int) : lessB a b = (decide (a.length < b.length) || (decide (a.length = b.length) && befB a b)) := by
  unfold lessB
  by_cases h : a.length = b.length
  · rw [if_pos h, befB_lex h]; simp [h]
  · rw [if_neg h]; simp [h]
set_option maxHeartbeats 1000000 in
theorem shorter_any (A1 A2 : Option Addr) (c1 c2 : Nat) (a b : List Int) (w : World) (ha : IntsAt w (.slice A1 a.length c1) a) (hb : IntsAt w (.slice A2 b.length c2) b) (hla : a.length ≤ 1000000) (hlb : b.length ≤ 1000000) :
    Calls Try.prog 49 #[.slice A1 a.length c1, .slice A2 b.length c2] w fun e w' => e = .returned (.bool (lessB a b)) ∧ Below w.heap.size w w' := by
  have HL := Lib.hid (lessB_bef a b)
  have hbf := Lib.hid (before_any _ _ a b w ha hb hla hlb)
  by_cases h1 : a.length < b.length
  · have d1 : decide ((a.length : Int) < (b.length : Int)) = true := by simp; omega
    have HF := Lib.hid (show lessB a b = true by rw [HL.out]; simp [h1])
    clear ha hb
    go_enter Try.func49, Try.ntmps49
    go_wp2_with fail
    go_ret
    exact ⟨by rw [HF.out]; rfl, Below.refl _ _⟩
  · by_cases h2 : a.length = b.length
    · have d1 : decide ((a.length : Int) < (b.length : Int)) = false := by simp; omega
      have d2 : ((a.length : Int) == (b.length : Int)) = true := by simp [h2]
      have HF := Lib.hid (show lessB a b = befB a b by rw [HL.out]; simp [h2])
      have H2 := Lib.hid h2
      obtain ⟨R, hR⟩ : ∃ R, befB a b = R := ⟨_, rfl⟩
      rw [hR] at hbf HF
      clear ha hb h2 hR
      go_enter Try.func49, Try.ntmps49
      go_wp2_with fail
      refine hbf.out.mono ?_
      rintro e w' ⟨rfl, hbe⟩
      go_wp2_with fail
      go_ret
      exact ⟨by rw [HF.out]; rfl, hbe⟩
    · have d1 : decide ((a.length : Int) < (b.length : Int)) = false := by simp; omega
      have d2 : ((a.length : Int) == (b.length : Int)) = false := by simp; omega
      have HF := Lib.hid (show lessB a b = false by rw [HL.out]; simp [h1, h2])
      clear ha hb
      go_enter Try.func49, Try.ntmps49
      go_wp2_with fail
      go_ret
      exact ⟨by rw [HF.out]; rfl, Below.refl _ _⟩
def SoRel (dips : List Dp) (tb : Nat) (w : World) (vi vo i : Value) (wr : World) : Prop :=
  ∃ j : Nat, j ≤ dips.length ∧ i = .int .i64 j ∧ wr.ownsRow w.heap.size 85 3 vi (keptTo dips (bitsL tb) j).length (flatD (keptTo dips (bitsL tb) j)) ∧ wr.ownsRow w.heap.size 3 1 vo (outTo tb j).length ((outTo tb j).map (Value.int .i64)) ∧ Below w.heap.size w wr
set_option maxRecDepth 100000 in
set_option maxHeartbeats 4000000 in
theorem some_any (Ad : Option Addr) (cd : Nat) (dips : List Dp) (tb : Nat) (w : World) (hd : DpsAt w Ad dips) (hl : dips.length ≤ 16) (ht : tb < 65536) :
    Calls Try.prog 48 #[.slice Ad dips.length cd, .int .i64 tb] w fun e w' => ∃ A1 c1 A2 c2, e = .returned (.tuple #[.slice A1 (keptL dips (bitsL tb)).length c1, .slice A2 (outTo tb dips.length).length c2]) ∧ DpsAt w' A1 (keptL dips (bitsL tb)) ∧ IntsAt w' (.slice A2 (outTo tb dips.length).length c2) (outTo tb dips.length) ∧ Below w.heap.size w w' := by
  have HD := Lib.hid hd
  clear hd
  obtain ⟨i0, hi0', hz0', hz1', hz2'⟩ := info_parts Try.info85
  have hi0 := Lib.hid hi0'
  have hz0 := Lib.hid hz0'
  have hz1 := Lib.hid hz1'
  have hz2 := Lib.hid hz2'
  clear hi0' hz0' hz1' hz2'
  go_enter Try.func48, Try.ntmps48
  go_wp2_with fail
  go_loopw [6, 7, 8] (SoRel dips tb w) (fun _ _ i _ => dips.length - (intOf i).toNat)
  case atStart => exact ⟨0, by omega, rfl, World.ownsRow_nil _ _ _ _, World.ownsRow_nil _ _ _ _, Below.refl _ _⟩
  case round =>
    obtain ⟨j, hj, rfl, ho1, ho2, hbe⟩ := hrel
    have hwr := hbe.size
    have hk1 := keptTo_len dips (bitsL tb) j
    have hk2 := outTo_len tb j
    have HBE := Lib.hid hbe
    have HO1 := Lib.hid ho1
    have HO2 := Lib.hid ho2
    clear hbe ho1 ho2
    by_cases hlt : j < dips.length
    · have hlt' : decide ((j : Int) < (dips.length : Int)) = true := by simpa using hlt
      have hsk := keptTo_succ dips (bitsL tb) j
      have hso := outTo_succ tb j
      rw [bitsL_has (by omega)] at hsk
      obtain ⟨b, o, rfl, a0, a1, a2⟩ := (HD.out.keep HBE.out (Nat.le_refl _)).at hlt
      obtain ⟨⟨dn, dlo, dhi⟩, hN⟩ : ∃ N, dips[j] = N := ⟨_, rfl⟩
      have hg : dips.getD j ⟨0, 0, 0⟩ = ⟨dn, dlo, dhi⟩ := by rw [← hN]; simp [hlt]
      rw [hN] at a0 a1 a2
      rw [hg] at hsk
      dsimp only at a0 a1 a2
      have hbit := bit_zero2 tb j
      have i1 : (0 : Int) ≤ (j : Int) := by omega
      have i2 : (j : Int) < (dips.length : Int) := by omega
      clear hN hg
      cases htb : tb.testBit j with
      | false =>
        rw [htb] at hbit hsk hso
        have HSK := Lib.hid hsk
        have HSO := Lib.hid hso
        clear hsk hso htb
        go_wp2_with (at_builtin; refine wpList_append_own _ rfl _ _ 55 rfl w.heap.size 85 i0 (.agg #[.int .i64 0, .int .i64 0, .int .i64 0]) 3 24 Try.underlying55 hi0.out hz0.out hz1.out hz2.out rfl (by decide) _ _ _ rfl (HO1.out.alloc _) ⟨wr.heap.size, 0, none⟩ 1 1 [.int .i64 dn, .int .i64 dlo, .int .i64 dhi] rfl rfl (World.news_of_block (cs := #[.int .i64 dn, .int .i64 dlo, .int .i64 dhi]) (t := 85) (fr := (0, 0)) (Go.heap_alloc_new wr _)) (by simp [Value.oneCell']) (by unfold maxLen; omega) (by omega) (by simp; omega) ?_)
        intro va W6 hown6 hgrow hnil6
        have hx6 : Below w.heap.size wr W6 := ((Below.refl _ wr).alloc (by omega) _).trans (below_of_grown hgrow (HO1.out.alloc _) (Nat.le_refl _) (by simp; omega))
        have HB6 := Lib.hid (HBE.out.trans (hx6.mono (Nat.le_refl _)))
        have HOW6 := Lib.hid (show W6.ownsRow w.heap.size 85 3 va (keptTo dips (bitsL tb) (j + 1)).length (flatD (keptTo dips (bitsL tb) (j + 1))) by rw [HSK.out]; simp only [Bool.false_eq_true, if_false]; rw [flatD_snoc, List.length_append]; exact hown6)
        have HOO6 := Lib.hid (show W6.ownsRow w.heap.size 3 1 u7 (outTo tb (j + 1)).length ((outTo tb (j + 1)).map (Value.int .i64)) by rw [HSO.out]; simp only [Bool.false_eq_true, if_false]; exact (HO2.out.alloc (.cells #[.int .i64 dn, .int .i64 dlo, .int .i64 dhi] 85)).kept hgrow (apart_types (HO2.out.alloc (.cells #[.int .i64 dn, .int .i64 dlo, .int .i64 dhi] 85)) (HO1.out.alloc (.cells #[.int .i64 dn, .int .i64 dlo, .int .i64 dhi] 85)) (by decide)))
        clear hown6 hgrow hnil6 hx6
        go_wp2_with fail
        go_roundw
        case rel => exact ⟨j + 1, by omega, by go_num, HOW6.out, HOO6.out, HB6.out⟩
        case measure => simp [intOf]; omega
      | true =>
        rw [htb] at hbit hsk hso
        have HSK := Lib.hid hsk
        have HSO := Lib.hid hso
        clear hsk hso htb
        go_wp2_with (at_builtin; refine wpList_app_int rfl _ _ rfl w.heap.size u7 (outTo tb j) (j : Int) wr.heap.size rfl (HO2.out.alloc _) rfl (Go.heap_alloc_new wr _) (by omega) (by simp; omega) _ rfl ?_)
        intro g cap W6 hown6 hgrow hg6 hlt6
        have hx6 : Below w.heap.size wr W6 := ((Below.refl _ wr).alloc (by omega) _).trans (below_of_grown hgrow (HO2.out.alloc _) (Nat.le_refl _) (by simp; omega))
        have HB6 := Lib.hid (HBE.out.trans (hx6.mono (Nat.le_refl _)))
        have HOO6 := Lib.hid (show W6.ownsRow w.heap.size 3 1 (.slice (some ⟨g, 0, none⟩) ((outTo tb j).length + 1) cap) (outTo tb (j + 1)).length ((outTo tb (j + 1)).map (Value.int .i64)) by rw [HSO.out]; simp only [if_true]; simpa using hown6)
        have HOW6 := Lib.hid (show W6.ownsRow w.heap.size 85 3 u6 (keptTo dips (bitsL tb) (j + 1)).length (flatD (keptTo dips (bitsL tb) (j + 1))) by rw [HSK.out]; simp only [if_true]; exact (HO1.out.alloc (.cells #[.int .i64 j] 3)).kept hgrow (apart_types (HO1.out.alloc (.cells #[.int .i64 j] 3)) (HO2.out.alloc (.cells #[.int .i64 j] 3)) (by decide)))
        clear hown6 hgrow hg6 hlt6 hx6
        go_wp2_with fail
        go_roundw
        case rel => exact ⟨j + 1, by omega, by go_num, HOW6.out, HOO6.out, HB6.out⟩
        case measure => simp [intOf]; omega
    · have hlt' : decide ((j : Int) < (dips.length : Int)) = false := by simpa using hlt
      obtain rfl : j = dips.length := by omega
      obtain ⟨A1, c1, rfl, h1, _⟩ := DpsAt.of_own85 HO1.out
      have h2 := IntsAt.of_own HO2.out
      obtain ⟨A2, c2, rfl, _⟩ := id h2
      have H1 := Lib.hid h1
      have H2 := Lib.hid h2
      have HF := Lib.hid (show keptTo dips (bitsL tb) dips.length = keptL dips (bitsL tb) from rfl)
      rw [HF.out] at H1 ⊢
      clear h1 h2
      go_wp2_with fail
      go_ret2
      exact ⟨A1, c1, A2, c2, rfl, H1.out, H2.out, HBE.out⟩
def LfRel (L : List Int) (w2 : World) (s i : Value) (wr : World) : Prop := ∃ k : Nat, k ≤ L.length ∧ i = .int .i64 k ∧ s = .int .i64 (orL L k) ∧ Below w2.heap.size w2 wr

set_option maxRecDepth 100000 in
set_option maxHeartbeats 16000000 in
theorem left_walk (s : St) (A : Option Addr) (cp : Nat) (Ac Ak : Option Addr) (cc ck : Nat) (c k : List Int) (Aw : Option Addr) (cw : Nat) (ws : List Int) (many bits tried : Int) (w : World) (hA : NtsAt w A s.ns) (hc : IntsAt w (.slice Ac c.length cc) c) (hk : IntsAt w (.slice Ak k.length ck) k) (hw : WordsAt w (.slice Aw ws.length cw) ws) (hwn : ws.length ≤ 9223372036854775807) (um0 : 0 ≤ many) (um1 : many ≤ 255) (ub0 : 0 ≤ bits) (ub1 : bits ≤ 255) (ut0 : 0 ≤ tried) (ut1 : tried ≤ 255) (n1 : NilOk Ac cc) (n2 : NilOk Ak ck) :
    Calls Try.prog 10 #[.agg #[.int .i64 s.cap, .int .i64 s.can, .int .i64 s.sl, .int .i64 s.sh, .slice A s.ns.length cp], .agg #[.slice Ac c.length cc, .slice Ak k.length ck], .slice Aw ws.length cw, .int .u8 many, .int .u8 bits, .int .u8 tried] w fun e w' => e = .returned (.bool true) ∧ Below w.heap.size w w' := by
  obtain ⟨tb, rfl⟩ : ∃ tb : Nat, tried = tb := ⟨tried.toNat, by omega⟩
  have HA := Lib.hid hA
  have HC := Lib.hid hc
  have HK := Lib.hid hk
  have HW := Lib.hid hw
  clear hA hc hk hw
  have hB0 : Below w.heap.size w ((w.alloc (.cells #[.int .i64 s.cap, .int .i64 s.can, .int .i64 s.sl, .int .i64 s.sh, .slice A s.ns.length cp] 26)).alloc (.cells #[.slice Ac c.length cc, .slice Ak k.length ck] 29)) := ((Below.refl _ _).alloc (Nat.le_refl _) _).alloc (by simp) _
  have hn0 : ((w.alloc (.cells #[.int .i64 s.cap, .int .i64 s.can, .int .i64 s.sl, .int .i64 s.sh, .slice A s.ns.length cp] 26)).alloc (.cells #[.slice Ac c.length cc, .slice Ak k.length ck] 29)).heap[w.heap.size]? = some (.cells #[.int .i64 s.cap, .int .i64 s.can, .int .i64 s.sl, .int .i64 s.sh, .slice A s.ns.length cp] 26 (0, 0)) := (Below.heap_alloc _ _ _ (by simp <;> omega)).trans (heap_new_at _ _ _ rfl)
  have hn1 : ((w.alloc (.cells #[.int .i64 s.cap, .int .i64 s.can, .int .i64 s.sl, .int .i64 s.sh, .slice A s.ns.length cp] 26)).alloc (.cells #[.slice Ac c.length cc, .slice Ak k.length ck] 29)).heap[w.heap.size + 1]? = some (.cells #[.slice Ac c.length cc, .slice Ak k.length ck] 29 (0, 0)) := heap_new_at _ _ _ (by simp)
  have HB1 := Lib.hid hB0
  have NBs1 := Lib.hid hn0
  have NBp1 := Lib.hid hn1
  clear hB0 hn0 hn1
  go_enter Try.func10, Try.ntmps10
  go_wp2_with fail
  generalize ((w.alloc (.cells #[.int .i64 s.cap, .int .i64 s.can, .int .i64 s.sl, .int .i64 s.sh, .slice A s.ns.length cp] 26)).alloc (.cells #[.slice Ac c.length cc, .slice Ak k.length ck] 29)) = w1 at HB1 NBs1 NBp1 ⊢
  obtain ⟨Bp, hBp⟩ : ∃ Bp, w.heap.size + 1 = Bp := ⟨_, rfl⟩
  obtain ⟨Bs, hBs⟩ : ∃ Bs, w.heap.size = Bs := ⟨_, rfl⟩
  have oBp : w.heap.size ≤ Bp := by omega
  have oBsBp : Bs < Bp := by omega
  have oBs : w.heap.size ≤ Bs := by omega
  rw [hBp] at NBp1 ⊢
  rw [hBs] at NBs1 ⊢
  clear hBs hBp
  obtain ⟨cBs0_1, cBs1_1, cBs2_1, cBs3_1, cBs4_1⟩ := cells5 NBs1.out
  obtain ⟨cBp0_1, cBp1_1⟩ := cells2 NBp1.out
  have hrd := Lib.hid (ready_any s A cp Ac Ak cc ck c k w1 (HA.out.keep HB1.out (Nat.le_refl _)) (HC.out.keep HB1.out (Nat.le_refl _)) (HK.out.keep HB1.out (Nat.le_refl _)))
  cases hR : readyB s c k with
  | false =>
    rw [hR] at hrd
    clear hR
    go_wp2_with fail
    refine (hrd.out).mono ?_
    rintro e w2 ⟨rfl, hb⟩
    have HB2 := Lib.hid ((HB1.out).trans (hb.mono (HB1.out).size))
    have NBs2 := Lib.hid ((hb.block Bs (Array.getElem?_eq_some_iff.1 NBs1.out).1).trans NBs1.out)
    have NBp2 := Lib.hid ((hb.block Bp (Array.getElem?_eq_some_iff.1 NBp1.out).1).trans NBp1.out)
    clear HB1 NBs1 NBp1 cBs0_1 cBs1_1 cBs2_1 cBs3_1 cBs4_1 cBp0_1 cBp1_1  hb hrd
    obtain ⟨cBs0_2, cBs1_2, cBs2_2, cBs3_2, cBs4_2⟩ := cells5 NBs2.out
    obtain ⟨cBp0_2, cBp1_2⟩ := cells2 NBp2.out
    go_wp2_with fail
    refine (awake_any _).mono ?_
    rintro e w3 ⟨rfl, hb⟩
    have HB3 := Lib.hid ((HB2.out).trans (hb.mono (HB2.out).size))
    have NBs3 := Lib.hid ((hb.block Bs (Array.getElem?_eq_some_iff.1 NBs2.out).1).trans NBs2.out)
    have NBp3 := Lib.hid ((hb.block Bp (Array.getElem?_eq_some_iff.1 NBp2.out).1).trans NBp2.out)
    clear HB2 NBs2 NBp2 cBs0_2 cBs1_2 cBs2_2 cBs3_2 cBs4_2 cBp0_2 cBp1_2  hb 
    obtain ⟨cBs0_3, cBs1_3, cBs2_3, cBs3_3, cBs4_3⟩ := cells5 NBs3.out
    obtain ⟨cBp0_3, cBp1_3⟩ := cells2 NBp3.out
    go_wp2_with fail
    go_ret
    exact ⟨rfl, HB3.out⟩
  | true =>
    rw [hR] at hrd
    have h0 := readyB_true hR
    clear hR
    go_wp2_with fail
    refine (hrd.out).mono ?_
    rintro e w2 ⟨rfl, hb⟩
    have HB2 := Lib.hid ((HB1.out).trans (hb.mono (HB1.out).size))
    have NBs2 := Lib.hid ((hb.block Bs (Array.getElem?_eq_some_iff.1 NBs1.out).1).trans NBs1.out)
    have NBp2 := Lib.hid ((hb.block Bp (Array.getElem?_eq_some_iff.1 NBp1.out).1).trans NBp1.out)
    clear HB1 NBs1 NBp1 cBs0_1 cBs1_1 cBs2_1 cBs3_1 cBs4_1 cBp0_1 cBp1_1  hb hrd
    obtain ⟨cBs0_2, cBs1_2, cBs2_2, cBs3_2, cBs4_2⟩ := cells5 NBs2.out
    obtain ⟨cBp0_2, cBp1_2⟩ := cells2 NBp2.out
    obtain ⟨l6, lc, lk⟩ := plan_lens s c k h0
    obtain ⟨hOK, -, -, hPL⟩ := planL_zero.1 h0
    have hpos := hOK.pos
    have H0 := Lib.hid h0
    have HOK := Lib.hid hOK
    have HPL := Lib.hid hPL
    have c9 : c.length ≤ 1000000 := by omega
    have k9 : k.length ≤ 1000000 := by omega
    have n9 : s.ns.length ≤ 1000000 := by omega
    have HLC := Lib.hid lc
    have HLK := Lib.hid lk
    clear h0 hOK hPL lc lk
    go_wp2_with fail
    go_region_held3 (fun X => X.cell? ⟨Bs, 0, none⟩ = some (.int .i64 s.cap) ∧ X.cell? ⟨Bs, 1, none⟩ = some (.int .i64 s.can) ∧ X.cell? ⟨Bs, 2, none⟩ = some (.int .i64 s.sl) ∧ X.cell? ⟨Bs, 3, none⟩ = some (.int .i64 s.sh) ∧ X.cell? ⟨Bs, 4, none⟩ = some (.slice A s.ns.length cp) ∧ X.cell? ⟨Bp, 0, none⟩ = some (.slice Ac c.length cc) ∧ X.cell? ⟨Bp, 1, none⟩ = some (.slice Ak k.length ck))
      (first | go_keep | exact ⟨(cell_later hb0 cBs0_2), (cell_later hb0 cBs1_2), (cell_later hb0 cBs2_2), (cell_later hb0 cBs3_2), (cell_later hb0 cBs4_2), (cell_later hb0 cBp0_2), (cell_later hb0 cBp1_2)⟩ | exact ⟨(cell_later hb1 (cell_later hb0 cBs0_2)), (cell_later hb1 (cell_later hb0 cBs1_2)), (cell_later hb1 (cell_later hb0 cBs2_2)), (cell_later hb1 (cell_later hb0 cBs3_2)), (cell_later hb1 (cell_later hb0 cBs4_2)), (cell_later hb1 (cell_later hb0 cBp0_2)), (cell_later hb1 (cell_later hb0 cBp1_2))⟩)
      (first | (go_at_call 43; refine (Picked_any s A cp (.slice Aw ws.length cw) ws w2.drew HOK.out (HA.out.keep HB2.out.drew (Nat.le_refl _)) (HW.out.keep HB2.out.drew (Nat.le_refl _)) hwn).mono ?_; rintro e w2_0 ⟨t, Ab, cb, bs, rfl, htb, hbs, hbn, hb0⟩; have hB0 := HB2.out.drew.trans (hb0.mono HB2.out.drew.size)) | (go_at_call 44; refine (dipped_by s A cp Ac Ak cc ck c k t Ab cb bs (.slice Aw ws.length cw) ws many bits w2_0 H0.out htb (HA.out.keep hB0 (Nat.le_refl _)) (HC.out.keep hB0 (Nat.le_refl _)) (HK.out.keep hB0 (Nat.le_refl _)) hbs (HW.out.keep hB0 (Nat.le_refl _)) hwn (And.intro um0 um1) (And.intro ub0 ub1)).mono ?_; rintro e w3 ⟨Ad, cd, dips, rfl, hda, hdn, hd4, hdo, hb1⟩; have hB1 := hB0.trans (hb1.mono hB0.size)))
    have hbR : Below w2.drew.heap.size w2.drew w3 := ((hb0).trans (hb1.mono (hb0).size))
    have HB3 := Lib.hid ((HB2.out.drew).trans (hbR.mono (HB2.out.drew).size))
    have NBs3 := Lib.hid ((hbR.block Bs (Array.getElem?_eq_some_iff.1 NBs2.out).1).trans NBs2.out)
    have NBp3 := Lib.hid ((hbR.block Bp (Array.getElem?_eq_some_iff.1 NBp2.out).1).trans NBp2.out)
    have FD3 := Lib.hid hda
    clear HB2 NBs2 NBp2 cBs0_2 cBs1_2 cBs2_2 cBs3_2 cBs4_2 cBp0_2 cBp1_2 hda hbR hb0 hB0 hb1 hB1 hbs hbn
    obtain ⟨cBs0_3, cBs1_3, cBs2_3, cBs3_3, cBs4_3⟩ := cells5 NBs3.out
    obtain ⟨cBp0_3, cBp1_3⟩ := cells2 NBp3.out
    have HTB := Lib.hid htb
    have HDO := Lib.hid hdo
    have HDN := Lib.hid hdn
    clear htb hdo hdn
    have HV0 := Lib.hid (HDO.out.valid H0.out hd4)
    have HVK := Lib.hid (fun out => kept_valid (out := out) HDO.out H0.out hd4)
    have d9 : dips.length ≤ 1000000 := by omega
    have d16 : dips.length ≤ 16 := by omega
    obtain ⟨-, hlu, hlk, hlm⟩ := leaveL_spec (c := atL c) (k := atL k) (dips := dips) HOK.out
    have hl1 := fun A2 cp2 Ac2 Ak2 cc2 ck2 Ax cx W x1 x2 x3 x4 => leave_yes s A2 cp2 Ac2 Ak2 cc2 ck2 c k Ax cx dips W x1 x2 x3 x4 HV0.out
    generalize leaveL s (atL c) (atL k) dips = l at hl1 hlu hlk hlm
    obtain ⟨hset, hslt⟩ := orL_bits d16 hlu
    have hset4 : orL l l.length < 16 := Nat.lt_of_lt_of_le hslt (Nat.pow_le_pow_right (n := 2) (by decide) hd4)
    have hnth := fun k h => Ups.nth hlu k h
    have h0L : ∀ x ∈ l, 0 ≤ x ∧ x < ((4 : Nat) : Int) := fun x hx => by obtain ⟨i, rfl, _, h⟩ := hlu.mem x hx; omega
    have l9 : l.length ≤ 1000 := by
      rcases hlu.len with h | h
      · rw [h]; simp
      · omega
    have hck : Cons s (atL c) (atL k) (keptL dips l) := (keptB_iff HOK.out).1 hlk
    have HL1 := Lib.hid hl1
    have HLM := Lib.hid hlm
    have HSET := Lib.hid hset
    have HS4 := Lib.hid hset4
    have HNTH := Lib.hid hnth
    have H0L := Lib.hid h0L
    have HCK := Lib.hid hck
    clear hl1 hlu hlk hlm hset hslt hset4 hnth h0L hck
    go_wp2_with fail
    go_region_held3 (fun X => X.cell? ⟨Bs, 0, none⟩ = some (.int .i64 s.cap) ∧ X.cell? ⟨Bs, 1, none⟩ = some (.int .i64 s.can) ∧ X.cell? ⟨Bs, 2, none⟩ = some (.int .i64 s.sl) ∧ X.cell? ⟨Bs, 3, none⟩ = some (.int .i64 s.sh) ∧ X.cell? ⟨Bs, 4, none⟩ = some (.slice A s.ns.length cp) ∧ X.cell? ⟨Bp, 0, none⟩ = some (.slice Ac c.length cc) ∧ X.cell? ⟨Bp, 1, none⟩ = some (.slice Ak k.length ck))
      (first | go_keep | exact ⟨(cell_later hb0 cBs0_3), (cell_later hb0 cBs1_3), (cell_later hb0 cBs2_3), (cell_later hb0 cBs3_3), (cell_later hb0 cBs4_3), (cell_later hb0 cBp0_3), (cell_later hb0 cBp1_3)⟩ | exact ⟨(cell_later hb1 (cell_later hb0 cBs0_3)), (cell_later hb1 (cell_later hb0 cBs1_3)), (cell_later hb1 (cell_later hb0 cBs2_3)), (cell_later hb1 (cell_later hb0 cBs3_3)), (cell_later hb1 (cell_later hb0 cBs4_3)), (cell_later hb1 (cell_later hb0 cBp0_3)), (cell_later hb1 (cell_later hb0 cBp1_3))⟩ | exact ⟨(cell_later hb2 (cell_later hb1 (cell_later hb0 cBs0_3))), (cell_later hb2 (cell_later hb1 (cell_later hb0 cBs1_3))), (cell_later hb2 (cell_later hb1 (cell_later hb0 cBs2_3))), (cell_later hb2 (cell_later hb1 (cell_later hb0 cBs3_3))), (cell_later hb2 (cell_later hb1 (cell_later hb0 cBs4_3))), (cell_later hb2 (cell_later hb1 (cell_later hb0 cBp0_3))), (cell_later hb2 (cell_later hb1 (cell_later hb0 cBp1_3)))⟩ | exact ⟨(cell_later hb3 (cell_later hb2 (cell_later hb1 (cell_later hb0 cBs0_3)))), (cell_later hb3 (cell_later hb2 (cell_later hb1 (cell_later hb0 cBs1_3)))), (cell_later hb3 (cell_later hb2 (cell_later hb1 (cell_later hb0 cBs2_3)))), (cell_later hb3 (cell_later hb2 (cell_later hb1 (cell_later hb0 cBs3_3)))), (cell_later hb3 (cell_later hb2 (cell_later hb1 (cell_later hb0 cBs4_3)))), (cell_later hb3 (cell_later hb2 (cell_later hb1 (cell_later hb0 cBp0_3)))), (cell_later hb3 (cell_later hb2 (cell_later hb1 (cell_later hb0 cBp1_3))))⟩)
      (first | (go_at_call 19; refine (store_conv s A cp w3.drew (HA.out.keep HB3.out.drew (Nat.le_refl _)) n9).mono ?_; rintro e w3_0 ⟨A2, cp2, rfl, hs2, hb0⟩; have hB0 := HB3.out.drew.trans (hb0.mono HB3.out.drew.size); have hf1 := (FD3.out.drew).keep hb0 (Nat.le_refl _)) | (go_at_call 21; refine (plan_conv Ac Ak cc ck c k w3_0 n1 n2 (HC.out.keep hB0 (Nat.le_refl _)) (HK.out.keep hB0 (Nat.le_refl _)) c9 k9).mono ?_; rintro e w3_1 ⟨Ac2, Ak2, cc2, ck2, rfl, hc2, hk2, hb1⟩; have hB1 := hB0.trans (hb1.mono hB0.size); have hs3 := hs2.keep hb1 (Nat.le_refl _); have hf2 := hf1.keep hb1 (Nat.le_refl _)) | (go_at_call 31; refine (dips_conv Ad cd dips w3_1 hf2 d9).mono ?_; rintro e w3_2 ⟨Ax, cx, rfl, hdx, hb2⟩; have hB2 := hB1.trans (hb2.mono hB1.size); have hs4 := hs3.keep hb2 (Nat.le_refl _); have hc3 := hc2.keep hb2 (Nat.le_refl _); have hk3 := hk2.keep hb2 (Nat.le_refl _)) | (go_at_call 30; refine (HL1.out A2 cp2 Ac2 Ak2 cc2 ck2 Ax cx w3_2 hs4 hc3 hk3 hdx).mono ?_; rintro e w4 ⟨Al, cl, rfl, hlv, hb3⟩; have hB3 := hB2.trans (hb3.mono hB2.size)))
    have hbR : Below w3.drew.heap.size w3.drew w4 := ((((((hb0).trans (hb1.mono (hb0).size))).trans (hb2.mono (((hb0).trans (hb1.mono (hb0).size))).size))).trans (hb3.mono (((((hb0).trans (hb1.mono (hb0).size))).trans (hb2.mono (((hb0).trans (hb1.mono (hb0).size))).size))).size))
    have HB4 := Lib.hid ((HB3.out.drew).trans (hbR.mono (HB3.out.drew).size))
    have NBs4 := Lib.hid ((hbR.block Bs (Array.getElem?_eq_some_iff.1 NBs3.out).1).trans NBs3.out)
    have NBp4 := Lib.hid ((hbR.block Bp (Array.getElem?_eq_some_iff.1 NBp3.out).1).trans NBp3.out)
    have FD4 := Lib.hid ((FD3.out.drew).keep hbR (Nat.le_refl _))
    have FL4 := Lib.hid hlv
    clear HB3 NBs3 NBp3 cBs0_3 cBs1_3 cBs2_3 cBs3_3 cBs4_3 cBp0_3 cBp1_3 FD3 hlv hbR hb0 hB0 hb1 hB1 hb2 hB2 hb3 hB3 hs2 hc2 hk2 hs3 hf1 hf2 hdx hs4 hc3 hk3
    obtain ⟨cBs0_4, cBs1_4, cBs2_4, cBs3_4, cBs4_4⟩ := cells5 NBs4.out
    obtain ⟨cBp0_4, cBp1_4⟩ := cells2 NBp4.out
    clear HL1
    go_wp2_with fail
    go_loopw [16, 17] (LfRel l w4) (fun _ i _ => l.length - (intOf i).toNat)
    case atStart => exact ⟨0, by omega, rfl, rfl, Below.refl _ _⟩
    case round =>
      obtain ⟨j, hj, rfl, rfl, hbe⟩ := hrel
      have HBE := Lib.hid hbe
      have hb := hbe
      clear hbe
      by_cases hlt : j < l.length
      · have hlt' : decide ((j : Int) < (l.length : Int)) = true := by simpa using hlt
        have i1 : (0 : Int) ≤ (j : Int) := by omega
        have i2 : (j : Int) < (l.length : Int) := by omega
        obtain ⟨y, hy, _, hyn, hyr⟩ := HNTH.out j hlt
        obtain ⟨_, _, he, hc⟩ := FL4.out.keep HBE.out (Nat.le_refl _)
        obtain ⟨rfl, rfl⟩ : Al = _ ∧ cl = _ := by simpa using he
        obtain ⟨lb, lo, rfl, hcc⟩ := Or.resolve_left hc (fun h => by rw [h] at hlt; simp at hlt)
        have ckk := hcc j hlt
        rw [hy] at ckk
        have hor := orL_succ hlt
        rw [hy, Int.toNat_natCast] at hor
        have hol := orL_lt (T := 4) H0L.out j hj
        have hsh := shl_small (y := y) (by omega)
        have hy2 : 2 ^ y < 2 ^ 20 := Nat.pow_lt_pow_right (by decide) (by omega)
        have hoa := or_small (a := orL l j) (b := 2 ^ y) (Nat.lt_of_lt_of_le hol (by decide)) hy2
        rw [← hsh] at hoa
        obtain ⟨SK, hSK⟩ : ∃ s, orL l j = s := ⟨_, rfl⟩
        rw [hSK] at hoa hor
        rw [hSK]
        have HOR := Lib.hid hor
        have HOA := Lib.hid hoa
        have y0 : (0 : Int) ≤ (y : Int) := by omega
        have d1 : decide ((y : Int) < 0) = false := by simp
        have d2 : decide ((dips.length : Int) ≤ (y : Int)) = false := by simp; omega
        have d2' : decide ((y : Int) ≥ (dips.length : Int)) = false := by simp; omega
        have d3 : decide (dips.length ≤ y) = false := by simp; omega
        clear hor hoa hsh hy2 hol hb cBs0_4 cBs1_4 cBs2_4 cBs3_4 cBs4_4 cBp0_4 cBp1_4
        by_cases hk0 : j = 0
        · subst hk0
          simp only [Int.ofNat_zero] at *
          have ck0 : wr.cell? ⟨lb, lo, none⟩ = some (.int .i64 y) := ckk
          clear hyr hy he hc hcc ckk
          go_wp2_with fail
          go_quiet (fail)
          go_wp2_with fail
          go_roundw
          case rel => exact ⟨0 + 1, by omega, by rfl, by rw [HOA.out, HOR.out], HBE.out.drewN _⟩
          case measure => simp [intOf]; omega
        · obtain ⟨p, rfl⟩ : ∃ p, j = p + 1 := ⟨j - 1, by omega⟩
          have cm := hcc p (by omega)
          have hz := hyr p (by omega)
          rw [hy] at hz
          obtain ⟨z, hze⟩ : ∃ z, l[p]'(by omega) = z := ⟨_, rfl⟩
          rw [hze] at cm hz
          have d4 : decide ((y : Int) ≤ z) = false := decide_eq_false (by omega)
          have j1 : (0 : Int) ≤ (p : Int) := by omega
          have j2 : (p : Int) < (l.length : Int) := by omega
          have j3 : decide ((0 : Int) < ((p + 1 : Nat) : Int)) = true := decide_eq_true (by omega)
          clear hyr hy he hc hcc hze
          go_wp2_with fail
          go_quiet (fail)
          go_wp2_with fail
          go_roundw
          case rel => exact ⟨p + 1 + 1, by omega, by go_num, by rw [HOA.out, HOR.out], HBE.out.drewN _⟩
          case measure => simp [intOf]; omega
      · have hlt' : decide ((j : Int) < (l.length : Int)) = false := by simpa using hlt
        obtain rfl : j = l.length := by omega
        obtain ⟨sb, hsb⟩ : ∃ sb, orL l l.length = sb := ⟨_, rfl⟩
        have hse := HSET.out
        have hss4 := HS4.out
        rw [hsb] at hse hss4 ⊢
        have hck := HCK.out
        rw [← hse] at hck
        have HCK2 := Lib.hid hck
        clear hsb hse hck HCK
        generalize wr = w5 at hb ⊢
        clear HBE
        have HB5 := Lib.hid ((HB4.out).trans (hb.mono (HB4.out).size))
        have NBs5 := Lib.hid ((hb.block Bs (Array.getElem?_eq_some_iff.1 NBs4.out).1).trans NBs4.out)
        have NBp5 := Lib.hid ((hb.block Bp (Array.getElem?_eq_some_iff.1 NBp4.out).1).trans NBp4.out)
        have FD5 := Lib.hid ((FD4.out).keep hb (Nat.le_refl _))
        have FL5 := Lib.hid ((FL4.out).keep hb (Nat.le_refl _))
        clear HB4 NBs4 NBp4 cBs0_4 cBs1_4 cBs2_4 cBs3_4 cBs4_4 cBp0_4 cBp1_4 FD4 FL4 hb 
        obtain ⟨cBs0_5, cBs1_5, cBs2_5, cBs3_5, cBs4_5⟩ := cells5 NBs5.out
        obtain ⟨cBp0_5, cBp1_5⟩ := cells2 NBp5.out
        go_wp2_with fail
        refine (some_any Ad cd dips sb _ FD5.out d16 (by omega)).mono ?_
        rintro e w6 ⟨A1, c1, A2, c2, rfl, hk1, ho1, hb⟩
        have HB6 := Lib.hid ((HB5.out).trans (hb.mono (HB5.out).size))
        have NBs6 := Lib.hid ((hb.block Bs (Array.getElem?_eq_some_iff.1 NBs5.out).1).trans NBs5.out)
        have NBp6 := Lib.hid ((hb.block Bp (Array.getElem?_eq_some_iff.1 NBp5.out).1).trans NBp5.out)
        have FD6 := Lib.hid ((FD5.out).keep hb (Nat.le_refl _))
        have FL6 := Lib.hid ((FL5.out).keep hb (Nat.le_refl _))
        have FP6 := Lib.hid hk1
        clear HB5 NBs5 NBp5 cBs0_5 cBs1_5 cBs2_5 cBs3_5 cBs4_5 cBp0_5 cBp1_5 FD5 FL5 hk1 hb ho1
        obtain ⟨cBs0_6, cBs1_6, cBs2_6, cBs3_6, cBs4_6⟩ := cells5 NBs6.out
        obtain ⟨cBp0_6, cBp1_6⟩ := cells2 NBp6.out
        go_wp2_with fail
        refine (some_any Ad cd dips tb _ FD6.out d16 (by omega)).mono ?_
        rintro e w7 ⟨A3, c3, A4, c4, rfl, hk2, ho2, hb⟩
        have HB7 := Lib.hid ((HB6.out).trans (hb.mono (HB6.out).size))
        have NBs7 := Lib.hid ((hb.block Bs (Array.getElem?_eq_some_iff.1 NBs6.out).1).trans NBs6.out)
        have NBp7 := Lib.hid ((hb.block Bp (Array.getElem?_eq_some_iff.1 NBp6.out).1).trans NBp6.out)
        have FD7 := Lib.hid ((FD6.out).keep hb (Nat.le_refl _))
        have FL7 := Lib.hid ((FL6.out).keep hb (Nat.le_refl _))
        have FP7 := Lib.hid ((FP6.out).keep hb (Nat.le_refl _))
        have FQ7 := Lib.hid hk2
        have FX7 := Lib.hid ho2
        clear HB6 NBs6 NBp6 cBs0_6 cBs1_6 cBs2_6 cBs3_6 cBs4_6 cBp0_6 cBp1_6 FD6 FL6 FP6 hk2 ho2 hb 
        obtain ⟨cBs0_7, cBs1_7, cBs2_7, cBs3_7, cBs4_7⟩ := cells5 NBs7.out
        obtain ⟨cBp0_7, cBp1_7⟩ := cells2 NBp7.out
        have hv1 := HVK.out (bitsL sb)
        have hv2 := HVK.out (bitsL tb)
        have kl1 := keptTo_len dips (bitsL sb) dips.length
        have kl2 := keptTo_len dips (bitsL tb) dips.length
        have hl2 : (keptL dips (bitsL sb)).length ≤ 1000000 := by unfold keptL; omega
        have hl3 : (keptL dips (bitsL tb)).length ≤ 1000000 := by unfold keptL; omega
        have hlo := outTo_len tb dips.length
        have hkk := kept_out (dips := dips) (tb := tb) d16
        have hmin := HLM.out (outTo tb dips.length) (outTo_ups tb dips.length)
        have hcm := HCK2.out
        generalize keptL dips (bitsL sb) = k1 at hv1 hl2 hcm FP7 ⊢
        obtain ⟨k2, hk2⟩ : ∃ x, keptL dips (bitsL tb) = x := ⟨_, rfl⟩
        rw [hk2] at hv2 hl3 hkk FQ7 ⊢
        have hmin2 : Cons s (atL c) (atL k) k2 → lessB (outTo tb dips.length) l = false := fun h => by
          cases e : lessB (outTo tb dips.length) l with
          | false => rfl
          | true =>
            have h1 := hmin e
            have h2 : keptB s (atL c) (atL k) dips (outTo tb dips.length) = true := (keptB_iff HOK.out).2 (by rw [← hkk]; exact h)
            rw [h2] at h1; cases h1
        generalize outTo tb dips.length = x at hlo hmin2 FX7 ⊢
        have HV1 := Lib.hid hv1
        have HV2 := Lib.hid hv2
        have HCM := Lib.hid hcm
        have HMIN := Lib.hid hmin2
        have x9 : x.length ≤ 1000000 := by omega
        have ho1 := Lib.hid (fun A2 cp2 Ac2 Ak2 cc2 ck2 Ax cx W x1 x2 x3 x4 => oil_yes s A2 cp2 Ac2 Ak2 cc2 ck2 c k Ax cx k1 W x1 x2 x3 x4 HV1.out HCM.out)
        have ho2 := Lib.hid (fun A2 cp2 Ac2 Ak2 cc2 ck2 Ax cx W x1 x2 x3 x4 => oil_gen s A2 cp2 Ac2 Ak2 cc2 ck2 c k Ax cx k2 W x1 x2 x3 x4 HV2.out)
        have hsh := Lib.hid (fun W x1 x2 => shorter_any A4 Al c4 cl x l W x1 x2 x9 (by omega))
        clear hv1 hv2 kl1 kl2 hlo hkk hmin hcm hmin2 hk2
        go_wp2_with fail
        go_region_held3 (fun X => X.cell? ⟨Bs, 0, none⟩ = some (.int .i64 s.cap) ∧ X.cell? ⟨Bs, 1, none⟩ = some (.int .i64 s.can) ∧ X.cell? ⟨Bs, 2, none⟩ = some (.int .i64 s.sl) ∧ X.cell? ⟨Bs, 3, none⟩ = some (.int .i64 s.sh) ∧ X.cell? ⟨Bs, 4, none⟩ = some (.slice A s.ns.length cp) ∧ X.cell? ⟨Bp, 0, none⟩ = some (.slice Ac c.length cc) ∧ X.cell? ⟨Bp, 1, none⟩ = some (.slice Ak k.length ck))
          (first | go_keep | exact ⟨(cell_later hb0 cBs0_7), (cell_later hb0 cBs1_7), (cell_later hb0 cBs2_7), (cell_later hb0 cBs3_7), (cell_later hb0 cBs4_7), (cell_later hb0 cBp0_7), (cell_later hb0 cBp1_7)⟩ | exact ⟨(cell_later hb1 (cell_later hb0 cBs0_7)), (cell_later hb1 (cell_later hb0 cBs1_7)), (cell_later hb1 (cell_later hb0 cBs2_7)), (cell_later hb1 (cell_later hb0 cBs3_7)), (cell_later hb1 (cell_later hb0 cBs4_7)), (cell_later hb1 (cell_later hb0 cBp0_7)), (cell_later hb1 (cell_later hb0 cBp1_7))⟩ | exact ⟨(cell_later hb2 (cell_later hb1 (cell_later hb0 cBs0_7))), (cell_later hb2 (cell_later hb1 (cell_later hb0 cBs1_7))), (cell_later hb2 (cell_later hb1 (cell_later hb0 cBs2_7))), (cell_later hb2 (cell_later hb1 (cell_later hb0 cBs3_7))), (cell_later hb2 (cell_later hb1 (cell_later hb0 cBs4_7))), (cell_later hb2 (cell_later hb1 (cell_later hb0 cBp0_7))), (cell_later hb2 (cell_later hb1 (cell_later hb0 cBp1_7)))⟩ | exact ⟨(cell_later hb3 (cell_later hb2 (cell_later hb1 (cell_later hb0 cBs0_7)))), (cell_later hb3 (cell_later hb2 (cell_later hb1 (cell_later hb0 cBs1_7)))), (cell_later hb3 (cell_later hb2 (cell_later hb1 (cell_later hb0 cBs2_7)))), (cell_later hb3 (cell_later hb2 (cell_later hb1 (cell_later hb0 cBs3_7)))), (cell_later hb3 (cell_later hb2 (cell_later hb1 (cell_later hb0 cBs4_7)))), (cell_later hb3 (cell_later hb2 (cell_later hb1 (cell_later hb0 cBp0_7)))), (cell_later hb3 (cell_later hb2 (cell_later hb1 (cell_later hb0 cBp1_7))))⟩)
          (first | (go_at_call 19; refine (store_conv s A cp w7.drew (HA.out.keep HB7.out.drew (Nat.le_refl _)) n9).mono ?_; rintro e w7_0 ⟨A2, cp2, rfl, hs2, hb0⟩; have hB0 := HB7.out.drew.trans (hb0.mono HB7.out.drew.size); have hf1 := (FP7.out.drew).keep hb0 (Nat.le_refl _)) | (go_at_call 21; refine (plan_conv Ac Ak cc ck c k w7_0 n1 n2 (HC.out.keep hB0 (Nat.le_refl _)) (HK.out.keep hB0 (Nat.le_refl _)) c9 k9).mono ?_; rintro e w7_1 ⟨Ac2, Ak2, cc2, ck2, rfl, hc2, hk2, hb1⟩; have hB1 := hB0.trans (hb1.mono hB0.size); have hs3 := hs2.keep hb1 (Nat.le_refl _); have hf2 := hf1.keep hb1 (Nat.le_refl _)) | (go_at_call 31; refine (dips_conv A1 c1 k1 w7_1 hf2 hl2).mono ?_; rintro e w7_2 ⟨Ax, cx, rfl, hdx, hb2⟩; have hB2 := hB1.trans (hb2.mono hB1.size); have hs4 := hs3.keep hb2 (Nat.le_refl _); have hc3 := hc2.keep hb2 (Nat.le_refl _); have hk3 := hk2.keep hb2 (Nat.le_refl _)) | (go_at_call 45; refine (ho1.out A2 cp2 Ac2 Ak2 cc2 ck2 Ax cx w7_2 hs4 hc3 hk3 hdx).mono ?_; rintro e w8 ⟨A5, c5, L5, H5, rfl, hr5, hra, hb3⟩; have hB3 := hB2.trans (hb3.mono hB2.size)))
        have hbR : Below w7.drew.heap.size w7.drew w8 := ((((((hb0).trans (hb1.mono (hb0).size))).trans (hb2.mono (((hb0).trans (hb1.mono (hb0).size))).size))).trans (hb3.mono (((((hb0).trans (hb1.mono (hb0).size))).trans (hb2.mono (((hb0).trans (hb1.mono (hb0).size))).size))).size))
        have HB8 := Lib.hid ((HB7.out.drew).trans (hbR.mono (HB7.out.drew).size))
        have NBs8 := Lib.hid ((hbR.block Bs (Array.getElem?_eq_some_iff.1 NBs7.out).1).trans NBs7.out)
        have NBp8 := Lib.hid ((hbR.block Bp (Array.getElem?_eq_some_iff.1 NBp7.out).1).trans NBp7.out)
        have FD8 := Lib.hid ((FD7.out.drew).keep hbR (Nat.le_refl _))
        have FL8 := Lib.hid ((FL7.out.drew).keep hbR (Nat.le_refl _))
        have FP8 := Lib.hid ((FP7.out.drew).keep hbR (Nat.le_refl _))
        have FQ8 := Lib.hid ((FQ7.out.drew).keep hbR (Nat.le_refl _))
        have FX8 := Lib.hid ((FX7.out.drew).keep hbR (Nat.le_refl _))
        clear HB7 NBs7 NBp7 cBs0_7 cBs1_7 cBs2_7 cBs3_7 cBs4_7 cBp0_7 cBp1_7 FD7 FL7 FP7 FQ7 FX7 hbR hb0 hB0 hb1 hB1 hb2 hB2 hb3 hB3 hs2 hc2 hk2 hs3 hf1 hf2 hdx hs4 hc3 hk3
        obtain ⟨cBs0_8, cBs1_8, cBs2_8, cBs3_8, cBs4_8⟩ := cells5 NBs8.out
        obtain ⟨cBp0_8, cBp1_8⟩ := cells2 NBp8.out
        clear hr5 hra
        go_wp2_with fail
        go_region_held3 (fun X => X.cell? ⟨Bs, 0, none⟩ = some (.int .i64 s.cap) ∧ X.cell? ⟨Bs, 1, none⟩ = some (.int .i64 s.can) ∧ X.cell? ⟨Bs, 2, none⟩ = some (.int .i64 s.sl) ∧ X.cell? ⟨Bs, 3, none⟩ = some (.int .i64 s.sh) ∧ X.cell? ⟨Bs, 4, none⟩ = some (.slice A s.ns.length cp) ∧ X.cell? ⟨Bp, 0, none⟩ = some (.slice Ac c.length cc) ∧ X.cell? ⟨Bp, 1, none⟩ = some (.slice Ak k.length ck))
          (first | go_keep | exact ⟨(cell_later hb0 cBs0_8), (cell_later hb0 cBs1_8), (cell_later hb0 cBs2_8), (cell_later hb0 cBs3_8), (cell_later hb0 cBs4_8), (cell_later hb0 cBp0_8), (cell_later hb0 cBp1_8)⟩ | exact ⟨(cell_later hb1 (cell_later hb0 cBs0_8)), (cell_later hb1 (cell_later hb0 cBs1_8)), (cell_later hb1 (cell_later hb0 cBs2_8)), (cell_later hb1 (cell_later hb0 cBs3_8)), (cell_later hb1 (cell_later hb0 cBs4_8)), (cell_later hb1 (cell_later hb0 cBp0_8)), (cell_later hb1 (cell_later hb0 cBp1_8))⟩ | exact ⟨(cell_later hb2 (cell_later hb1 (cell_later hb0 cBs0_8))), (cell_later hb2 (cell_later hb1 (cell_later hb0 cBs1_8))), (cell_later hb2 (cell_later hb1 (cell_later hb0 cBs2_8))), (cell_later hb2 (cell_later hb1 (cell_later hb0 cBs3_8))), (cell_later hb2 (cell_later hb1 (cell_later hb0 cBs4_8))), (cell_later hb2 (cell_later hb1 (cell_later hb0 cBp0_8))), (cell_later hb2 (cell_later hb1 (cell_later hb0 cBp1_8)))⟩ | exact ⟨(cell_later hb3 (cell_later hb2 (cell_later hb1 (cell_later hb0 cBs0_8)))), (cell_later hb3 (cell_later hb2 (cell_later hb1 (cell_later hb0 cBs1_8)))), (cell_later hb3 (cell_later hb2 (cell_later hb1 (cell_later hb0 cBs2_8)))), (cell_later hb3 (cell_later hb2 (cell_later hb1 (cell_later hb0 cBs3_8)))), (cell_later hb3 (cell_later hb2 (cell_later hb1 (cell_later hb0 cBs4_8)))), (cell_later hb3 (cell_later hb2 (cell_later hb1 (cell_later hb0 cBp0_8)))), (cell_later hb3 (cell_later hb2 (cell_later hb1 (cell_later hb0 cBp1_8))))⟩)
          (first | (go_at_call 19; refine (store_conv s A cp w8.drew (HA.out.keep HB8.out.drew (Nat.le_refl _)) n9).mono ?_; rintro e w8_0 ⟨A2, cp2, rfl, hs2, hb0⟩; have hB0 := HB8.out.drew.trans (hb0.mono HB8.out.drew.size); have hf1 := (FQ8.out.drew).keep hb0 (Nat.le_refl _)) | (go_at_call 21; refine (plan_conv Ac Ak cc ck c k w8_0 n1 n2 (HC.out.keep hB0 (Nat.le_refl _)) (HK.out.keep hB0 (Nat.le_refl _)) c9 k9).mono ?_; rintro e w8_1 ⟨Ac2, Ak2, cc2, ck2, rfl, hc2, hk2, hb1⟩; have hB1 := hB0.trans (hb1.mono hB0.size); have hs3 := hs2.keep hb1 (Nat.le_refl _); have hf2 := hf1.keep hb1 (Nat.le_refl _)) | (go_at_call 31; refine (dips_conv A3 c3 k2 w8_1 hf2 hl3).mono ?_; rintro e w8_2 ⟨Ax, cx, rfl, hdx, hb2⟩; have hB2 := hB1.trans (hb2.mono hB1.size); have hs4 := hs3.keep hb2 (Nat.le_refl _); have hc3 := hc2.keep hb2 (Nat.le_refl _); have hk3 := hk2.keep hb2 (Nat.le_refl _)) | (go_at_call 45; refine (ho2.out A2 cp2 Ac2 Ak2 cc2 ck2 Ax cx w8_2 hs4 hc3 hk3 hdx).mono ?_; rintro e w9 ⟨A6, c6, z6, E6, L6, H6, rfl, hob, hb3⟩; have hB3 := hB2.trans (hb3.mono hB2.size)))
        have hbR : Below w8.drew.heap.size w8.drew w9 := ((((((hb0).trans (hb1.mono (hb0).size))).trans (hb2.mono (((hb0).trans (hb1.mono (hb0).size))).size))).trans (hb3.mono (((((hb0).trans (hb1.mono (hb0).size))).trans (hb2.mono (((hb0).trans (hb1.mono (hb0).size))).size))).size))
        have HB9 := Lib.hid ((HB8.out.drew).trans (hbR.mono (HB8.out.drew).size))
        have NBs9 := Lib.hid ((hbR.block Bs (Array.getElem?_eq_some_iff.1 NBs8.out).1).trans NBs8.out)
        have NBp9 := Lib.hid ((hbR.block Bp (Array.getElem?_eq_some_iff.1 NBp8.out).1).trans NBp8.out)
        have FD9 := Lib.hid ((FD8.out.drew).keep hbR (Nat.le_refl _))
        have FL9 := Lib.hid ((FL8.out.drew).keep hbR (Nat.le_refl _))
        have FP9 := Lib.hid ((FP8.out.drew).keep hbR (Nat.le_refl _))
        have FQ9 := Lib.hid ((FQ8.out.drew).keep hbR (Nat.le_refl _))
        have FX9 := Lib.hid ((FX8.out.drew).keep hbR (Nat.le_refl _))
        clear HB8 NBs8 NBp8 cBs0_8 cBs1_8 cBs2_8 cBs3_8 cBs4_8 cBp0_8 cBp1_8 FD8 FL8 FP8 FQ8 FX8 hbR hb0 hB0 hb1 hB1 hb2 hB2 hb3 hB3 hs2 hc2 hk2 hs3 hf1 hf2 hdx hs4 hc3 hk3
        obtain ⟨cBs0_9, cBs1_9, cBs2_9, cBs3_9, cBs4_9⟩ := cells5 NBs9.out
        obtain ⟨cBp0_9, cBp1_9⟩ := cells2 NBp9.out
        clear ho1 ho2
        rcases hob with ⟨hcb, rfl, rfl, hrb, hrB⟩ | ⟨hcb, rfl, rfl⟩
        · have hsx := HMIN.out hcb
          rw [hsx] at hsh
          clear hsx hcb hrb hrB
          go_wp2_with fail
          refine (hsh.out _ FX9.out FL9.out).mono ?_
          rintro e w10 ⟨rfl, hb⟩
          have HB10 := Lib.hid ((HB9.out).trans (hb.mono (HB9.out).size))
          have NBs10 := Lib.hid ((hb.block Bs (Array.getElem?_eq_some_iff.1 NBs9.out).1).trans NBs9.out)
          have NBp10 := Lib.hid ((hb.block Bp (Array.getElem?_eq_some_iff.1 NBp9.out).1).trans NBp9.out)
          have FD10 := Lib.hid ((FD9.out).keep hb (Nat.le_refl _))
          have FL10 := Lib.hid ((FL9.out).keep hb (Nat.le_refl _))
          have FP10 := Lib.hid ((FP9.out).keep hb (Nat.le_refl _))
          have FQ10 := Lib.hid ((FQ9.out).keep hb (Nat.le_refl _))
          have FX10 := Lib.hid ((FX9.out).keep hb (Nat.le_refl _))
          clear HB9 NBs9 NBp9 cBs0_9 cBs1_9 cBs2_9 cBs3_9 cBs4_9 cBp0_9 cBp1_9 FD9 FL9 FP9 FQ9 FX9 hb 
          obtain ⟨cBs0_10, cBs1_10, cBs2_10, cBs3_10, cBs4_10⟩ := cells5 NBs10.out
          obtain ⟨cBp0_10, cBp1_10⟩ := cells2 NBp10.out
          go_wp2_with fail
          refine (awake_any _).mono ?_
          rintro e w11 ⟨rfl, hb⟩
          have HB11 := Lib.hid ((HB10.out).trans (hb.mono (HB10.out).size))
          have NBs11 := Lib.hid ((hb.block Bs (Array.getElem?_eq_some_iff.1 NBs10.out).1).trans NBs10.out)
          have NBp11 := Lib.hid ((hb.block Bp (Array.getElem?_eq_some_iff.1 NBp10.out).1).trans NBp10.out)
          have FD11 := Lib.hid ((FD10.out).keep hb (Nat.le_refl _))
          have FL11 := Lib.hid ((FL10.out).keep hb (Nat.le_refl _))
          have FP11 := Lib.hid ((FP10.out).keep hb (Nat.le_refl _))
          have FQ11 := Lib.hid ((FQ10.out).keep hb (Nat.le_refl _))
          have FX11 := Lib.hid ((FX10.out).keep hb (Nat.le_refl _))
          clear HB10 NBs10 NBp10 cBs0_10 cBs1_10 cBs2_10 cBs3_10 cBs4_10 cBp0_10 cBp1_10 FD10 FL10 FP10 FQ10 FX10 hb 
          obtain ⟨cBs0_11, cBs1_11, cBs2_11, cBs3_11, cBs4_11⟩ := cells5 NBs11.out
          obtain ⟨cBp0_11, cBp1_11⟩ := cells2 NBp11.out
          go_wp2_with fail
          go_ret
          exact ⟨rfl, HB11.out⟩
        · clear hcb
          go_wp2_with fail
          refine (awake_any _).mono ?_
          rintro e w10 ⟨rfl, hb⟩
          have HB10 := Lib.hid ((HB9.out).trans (hb.mono (HB9.out).size))
          have NBs10 := Lib.hid ((hb.block Bs (Array.getElem?_eq_some_iff.1 NBs9.out).1).trans NBs9.out)
          have NBp10 := Lib.hid ((hb.block Bp (Array.getElem?_eq_some_iff.1 NBp9.out).1).trans NBp9.out)
          have FD10 := Lib.hid ((FD9.out).keep hb (Nat.le_refl _))
          have FL10 := Lib.hid ((FL9.out).keep hb (Nat.le_refl _))
          have FP10 := Lib.hid ((FP9.out).keep hb (Nat.le_refl _))
          have FQ10 := Lib.hid ((FQ9.out).keep hb (Nat.le_refl _))
          have FX10 := Lib.hid ((FX9.out).keep hb (Nat.le_refl _))
          clear HB9 NBs9 NBp9 cBs0_9 cBs1_9 cBs2_9 cBs3_9 cBs4_9 cBp0_9 cBp1_9 FD9 FL9 FP9 FQ9 FX9 hb 
          obtain ⟨cBs0_10, cBs1_10, cBs2_10, cBs3_10, cBs4_10⟩ := cells5 NBs10.out
          obtain ⟨cBp0_10, cBp1_10⟩ := cells2 NBp10.out
          go_wp2_with fail
          go_ret
          exact ⟨rfl, HB10.out⟩
end Go.Proofs.Ytefhdcecbmgljaa

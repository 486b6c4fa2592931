/-
  begin: a net at work, in rooms.
-/
import Derived.Test.YtkloaeaepjoijaaEnv
import Derived.BigRegion
import Derived.IntWalk
set_option linter.all false
namespace Go.Proofs.Ytkloaeaepjoijaa
open Go.RowKit Go.WalkArith

def gv1 (k : Nat) (v : Int) : Int := if 0 ≤ v ∧ v < (k : Int) then 36 else 0
def gv2 (T : Int) (k : Nat) (v : Int) : Int := if 0 ≤ v ∧ v < T then 36 else if 5 ≤ v ∧ v < 5 + (k : Int) then -72 else 0

def Beg1 (B0 B1 B2 B3 B4 : Nat) (w : World) (A : Option Addr) (n cap : Nat) (T C : Int) (rs : Array Value) (i : Value) (wr : World) : Prop :=
  ∃ k : Nat, (k : Int) ≤ T ∧ i = .int .i64 k ∧ BegEnv B0 B1 B2 B3 B4 w A n cap T C rs wr (fun _ _ _ => 0) (gv1 k)
def Beg2 (B0 B1 B2 B3 B4 : Nat) (w : World) (A : Option Addr) (n cap : Nat) (T C : Int) (rs : Array Value) (i : Value) (wr : World) : Prop :=
  ∃ k : Nat, (k : Int) ≤ C ∧ i = .int .i64 k ∧ BegEnv B0 B1 B2 B3 B4 w A n cap T C rs wr (fun _ _ _ => 0) (gv2 T k)

theorem gv2_step (T : Int) (k : Nat) (h : T ≤ 5) (i : Nat) : gv2 T (k + 1) i = updG (gv2 T k) ((5 + k : Nat) : Int) (-72) i := by
  unfold updG
  by_cases e : (i : Int) = ((5 + k : Nat) : Int)
  · rw [if_pos e, e]; unfold gv2; rw [if_neg (by omega), if_pos (by omega)]
  · rw [if_neg e]; unfold gv2; (repeat' split) <;> omega

theorem give9_zero {T C : Int} {k : Nat} (h : C = k) (fr to lo : Int → Int) (v : Int) : give9 0 T C fr to lo v = gv2 T k v := by
  subst h
  unfold gv2 give9 base
  simp only [sumR]
  (repeat' split) <;> omega

theorem updG_two (G : Int → Int) (p q L i : Int) : G i + ((if q = i then L else 0) - (if p = i then L else 0)) = updG (updG G p (G p - L)) q (updG G p (G p - L) q + L) i := by
  unfold updG
  by_cases e1 : i = q
  · subst e1
    by_cases e2 : i = p
    · subst e2; simp; try omega
    · rw [if_pos rfl, if_neg (fun h => e2 h.symm), if_pos rfl, if_neg e2]; omega
  · rw [if_neg e1, if_neg (fun h => e1 h.symm)]
    by_cases e2 : i = p
    · subst e2; simp; try omega
    · rw [if_neg e2, if_neg (fun h => e2 h.symm)]; omega

def Beg3 (B0 B1 B2 B3 B4 : Nat) (w : World) (A : Option Addr) (n cap : Nat) (T C : Int) (rs : Array Value) (l : List Ang) (lo hi : Int → Int) (i : Value) (wr : World) : Prop :=
  ∃ k : Nat, k ≤ n ∧ i = .int .i64 k ∧ BegEnv B0 B1 B2 B3 B4 w A n cap T C rs wr (initK k (frL l) (toL l) (fun i => hi i - lo i) (fun _ => 0) 0) (give9 k T C (frL l) (toL l) lo)

def gv4 (n : Nat) (T C : Int) (fr to lo : Int → Int) (k : Nat) (v : Int) : Int := if v = 10 then - sumR k (fun u => give9 n T C fr to lo u) else give9 n T C fr to lo v

theorem gv4_zero (n : Nat) (T C : Int) (fr to lo : Int → Int) (i : Nat) : gv4 n T C fr to lo 0 i = updG (give9 n T C fr to lo) ((10 : Nat) : Int) 0 i := by
  unfold gv4 updG
  rw [show ((10 : Nat) : Int) = 10 from rfl]
  by_cases e : (i : Int) = 10
  · rw [if_pos e, if_pos e]; simp [sumR]
  · rw [if_neg e, if_neg e]

theorem gv4_step (n : Nat) (T C : Int) (fr to lo : Int → Int) (k : Nat) (i : Nat) : gv4 n T C fr to lo (k + 1) i = updG (gv4 n T C fr to lo k) ((10 : Nat) : Int) (- sumR k (fun u => give9 n T C fr to lo u) - give9 n T C fr to lo k) i := by
  unfold updG
  rw [show ((10 : Nat) : Int) = 10 from rfl]
  by_cases e : (i : Int) = 10
  · rw [if_pos e]; unfold gv4; rw [if_pos e]; simp only [sumR]; omega
  · rw [if_neg e]; unfold gv4; rw [if_neg e, if_neg e]

theorem gv4_all (n : Nat) (T C : Int) (fr to lo : Int → Int) (v : Int) : gv4 n T C fr to lo 10 v = giveN n T C fr to lo v := rfl

theorem sumR_bd {k : Nat} {h : Nat → Int} {B : Int} (hb : ∀ i, i < k → -B ≤ h i ∧ h i ≤ B) : -(k * B) ≤ sumR k h ∧ sumR k h ≤ k * B := by
  induction k with
  | zero => simp [sumR]
  | succ k ih =>
    have h1 := ih (fun i hi => hb i (by omega))
    have h2 := hb k (by omega)
    simp only [sumR]
    have e : ((k + 1 : Nat) : Int) * B = k * B + B := by rw [Int.natCast_add, Int.add_mul]; simp
    rw [e]
    omega

/-- needs, as begin calls it. -/
theorem needs_any (g b len : Nat) (fr to cap G : Int → Int) (k : Nat) (w : World) (hk : k ≤ 10) (h0 : -1000000 ≤ G k) (h1 : G k ≤ 1000000) (hg : w.cell? ⟨g, 3, none⟩ = some (.map (some b))) (hm : ArcMap w b (initK len fr to cap G k)) :
    Calls Try.prog 117 #[.pointer (some ⟨g, 0, none⟩), .int .i64 k, .int .i64 (G k)] w fun e w' => e = .returned (.tuple #[]) ∧ ArcMap w' b (initK len fr to cap G (k + 1)) ∧ MapOnly b w w' := by
  by_cases hp : 0 < G k
  · have e := initK_at11 len fr to cap G k hk
    refine (needs_pos g b k (G k) _ w hp h1 (by omega) (by omega) hg hm (by rw [e]; omega) (by rw [e]; omega)).mono ?_
    rintro e' w' ⟨rfl, h2, h3⟩
    rw [e, Int.zero_add, initK_pos len fr to cap G k hk hp] at h2
    exact ⟨rfl, h2, h3⟩
  · have e := initK_at12 len fr to cap G k hk
    refine (needs_neg g b k (G k) _ w (by omega) h0 (by omega) (by omega) hg hm (by rw [e]; omega) (by rw [e]; omega)).mono ?_
    rintro e' w' ⟨rfl, h2, h3⟩
    rw [e, initK_neg len fr to cap G k hk (by omega)] at h2
    exact ⟨rfl, h2, h3⟩

def Beg4 (B0 B1 B2 B3 B4 : Nat) (w : World) (A : Option Addr) (n cap : Nat) (T C : Int) (rs : Array Value) (l : List Ang) (lo hi : Int → Int) (i : Value) (wr : World) : Prop :=
  ∃ k : Nat, k ≤ 10 ∧ i = .int .i64 k ∧ BegEnv B0 B1 B2 B3 B4 w A n cap T C rs wr (initK n (frL l) (toL l) (fun i => hi i - lo i) (giveN n T C (frL l) (toL l) lo) k) (gv4 n T C (frL l) (toL l) lo k)

/-- What begin hands back. -/
def BegPost (A : Option Addr) (n cap : Nat) (T C : Int) (l : List Ang) (lo hi : Int → Int) (w : World) (e : Ending) (w' : World) : Prop :=
  ∃ (g b : Nat) (due : Int), e = .returned (.tuple #[.pointer (some ⟨g, 0, none⟩), .int .i64 due]) ∧ Below w.heap.size w w' ∧ w.heap.size ≤ b ∧ w.heap.size ≤ g ∧
    w'.cell? ⟨g, 0, none⟩ = some (.slice A n cap) ∧ w'.cell? ⟨g, 3, none⟩ = some (.map (some b)) ∧
    ArcMap w' b (initF n (frL l) (toL l) (fun i => hi i - lo i) (giveN n T C (frL l) (toL l) lo)) ∧ due = sumR 11 (fun v => max 0 (giveN n T C (frL l) (toL l) lo v))

theorem sum_max_bd {k : Nat} {h : Nat → Int} {B : Int} (h0 : 0 ≤ B) (hb : ∀ i, i < k → h i ≤ B) : 0 ≤ sumR k (fun v => max 0 (h v)) ∧ sumR k (fun v => max 0 (h v)) ≤ k * B := by
  constructor
  · exact sumR_nonneg fun i _ => by omega
  · exact (sumR_bd (B := B) (fun i hi => ⟨by omega, by have := hb i hi; omega⟩)).2

set_option maxRecDepth 100000 in
set_option maxHeartbeats 4000000 in
theorem begin_any (b o n cap : Nat) (T C : Int) (l : List Ang) (rs : Array Value) (lo hi : Int → Int) (w : World) (hl : l.length = n) (hok : NetOk l T C) (hA : AngsAt w (some ⟨b, o, none⟩) l) (hrs : RoomsV rs lo hi) (hro : RoomsOk n lo hi) :
    Calls Try.prog 92 #[.agg #[.slice (some ⟨b, o, none⟩) n cap, .int .i64 T, .int .i64 C], .agg rs] w (BegPost (some ⟨b, o, none⟩) n cap T C l lo hi w) := by
  have HR := Lib.hid hrs
  have HO := Lib.hid hok
  have HL := Lib.hid hl
  have HRO := Lib.hid hro
  have ht0 := hok.t0
  have ht1 := hok.t1
  have hc0 := hok.c0
  have hc1 := hok.c1
  have HA := Lib.hid hA
  clear hrs hok hl hro hA
  have hmm := @run_makeMap Try.prog
  have hst := Lib.hid (BegEnv.start w (some ⟨b, o, none⟩) n cap T C rs)
  unfold zeros13 at hst
  go_enter Try.func92, Try.ntmps92
  go_wp2_with fail
  generalize (((((w.alloc (.cells #[.slice (some ⟨b, o, none⟩) n cap, .int .i64 T, .int .i64 C] 33)).alloc (.cells rs 109)).alloc (.map #[] 0)).alloc (.cells #[.slice (some ⟨b, o, none⟩) n cap, .int .i64 T, .int .i64 C, .map (some (w.heap.size + 1 + 1))] 153)).alloc (.cells #[.int .i64 0, .int .i64 0, .int .i64 0, .int .i64 0, .int .i64 0, .int .i64 0, .int .i64 0, .int .i64 0, .int .i64 0, .int .i64 0, .int .i64 0, .int .i64 0, .int .i64 0] 107)) = W1 at hst ⊢
  generalize w.heap.size + 1 + 1 + 1 + 1 = B4 at hst ⊢
  generalize w.heap.size + 1 + 1 + 1 = B3 at hst ⊢
  generalize w.heap.size + 1 + 1 = B2 at hst ⊢
  generalize w.heap.size + 1 = B1 at hst ⊢
  have hB := hst.out.ord
  have hBN : w.heap.size ≤ w.heap.size := Nat.le_refl _
  clear hmm
  obtain ⟨B0, hB0⟩ : ∃ B0, w.heap.size = B0 := ⟨_, rfl⟩
  rw [hB0] at hst ⊢
  have hB' : w.heap.size ≤ B0 := by omega
  rw [hB0] at hB
  clear hB0 hBN
  go_loopw [21] (Beg1 B0 B1 B2 B3 B4 w (some ⟨b, o, none⟩) n cap T C rs) (fun i _ => T.toNat - (intOf i).toNat)
  case atStart => exact ⟨0, by omega, rfl, hst.out.gives (fun i _ => by unfold gv1; rw [if_neg (by omega)])⟩
  case round =>
    clear hst
    obtain ⟨k, hk, rfl, hE⟩ := hrel
    by_cases hlt : (k : Int) < T
    · have hc := hE.give.cell (i := k) (by omega)
      have hf := hE.give.frozen k
      have hg : gv1 k k = 0 := by unfold gv1; rw [if_neg (by omega)]
      rw [hg] at hc
      clear hg
      have hk13 : (k : Int) < 13 := by omega
      have HE := Lib.hid hE
      clear hE
      go_wp2
      go_roundw
      case rel => 
        exact ⟨k + 1, by omega, by go_num, (HE.out.set 36 (by omega)).gives (fun i hi => by unfold gv1 updG; by_cases e : (i : Int) = k <;> simp [e] <;> (repeat' split) <;> omega)⟩
      case measure => simp [intOf]; omega
    · have HE := Lib.hid hE
      have cs := hE.cells
      obtain ⟨q0, q1, q2, q3⟩ := cs
      have hlt' : decide ((k : Int) < T) = false := by simpa using hlt
      have hkT : T = k := by omega
      have HK := Lib.hid hkT
      clear hE hkT
      go_wp2
      obtain ⟨wo, rfl⟩ : ∃ wo : World, wo = wr := ⟨_, rfl⟩
      go_loopw [32] (Beg2 B0 B1 B2 B3 B4 w (some ⟨b, o, none⟩) n cap T C rs) (fun i _ => C.toNat - (intOf i).toNat)
      case atStart => exact ⟨0, by omega, rfl, HE.out.gives (fun i _ => by unfold gv1 gv2; rw [HK.out]; (repeat' split) <;> omega)⟩
      case round =>
        clear HE q0 q1 q2 q3 HK hlt hlt' hk
        obtain ⟨k, hk, rfl, hE⟩ := hrel
        by_cases hlt : (k : Int) < C
        · have hc := hE.give.cell (i := 5 + k) (by omega)
          have hf := hE.give.frozen (5 + k)
          have hg : gv2 T k ((5 + k : Nat) : Int) = 0 := by unfold gv2; rw [if_neg (by omega), if_neg (by omega)]
          rw [hg] at hc
          clear hg
          have hk13 : (k : Int) < 8 := by omega
          have hlt2 : T ≤ 5 := ht1
          have HE := Lib.hid hE
          clear hE
          go_wp2
          go_roundw
          case rel =>
            exact ⟨k + 1, by omega, by go_num, (HE.out.set (v := 5 + k) (-72) (by omega)).gives (fun i hi => gv2_step T k hlt2 i)⟩
          case measure => simp [intOf]; omega
        · have HE := Lib.hid hE
          have cs := hE.cells
          obtain ⟨q0, q1, q2, q3⟩ := cs
          have hlt' : decide ((k : Int) < C) = false := by simpa using hlt
          have hkC : C = k := by omega
          have HK := Lib.hid hkC
          clear hE hkC
          go_wp2
          obtain ⟨wo2, rfl⟩ : ∃ wo2 : World, wo2 = wr := ⟨_, rfl⟩
          go_loopw [45] (Beg3 B0 B1 B2 B3 B4 w (some ⟨b, o, none⟩) n cap T C rs l lo hi) (fun i _ => n - (intOf i).toNat)
          case atStart => exact ⟨0, by omega, rfl, (HE.out.gives (fun i _ => give9_zero HK.out _ _ _ _)).flow (by rw [initK_zero])⟩
          case round =>
            clear HE q0 q1 q2 q3 HK hlt hlt' hk
            obtain ⟨k, hk, rfl, hE⟩ := hrel
            by_cases hlt : k < n
            · have hlk : k < l.length := by rw [HL.out]; exact hlt
              have hn12 : n ≤ 12 := by rw [← HL.out]; exact HO.out.len
              obtain ⟨b', o', hAe, hAs⟩ := HA.out.resolve_left (fun h => by rw [h] at hlk; simp at hlk)
              obtain ⟨rfl, rfl⟩ : b = b' ∧ o = o' := by simpa using hAe
              have hak := hAs k hlk
              have han := HO.out.ang l[k] (List.getElem_mem hlk)
              have hbl := World.block_lt_of_cell? w _ hak.1
              have hak2 : AngAt wr b (o + k * 4) l[k] := by
                have hc := fun i => hE.below.cell (p := ⟨b, i, none⟩) hbl
                exact ⟨(hc _).trans hak.1, (hc _).trans hak.2.1, (hc _).trans hak.2.2.1, (hc _).trans hak.2.2.2⟩
              have harc := arc_any b o n cap T C k l[k] wr hlt (by omega) hak2 (by omega) (by omega) (by omega) (by omega)
              rw [← frL_at hlk, ← toL_at hlk] at harc
              have hfr := HO.out.fr hlk
              have hto := HO.out.to hlk
              obtain ⟨p, hp⟩ : ∃ p : Nat, frL l k = p := ⟨(frL l k).toNat, by omega⟩
              obtain ⟨q, hq⟩ : ∃ q : Nat, toL l k = q := ⟨(toL l k).toNat, by omega⟩
              rw [hp, hq] at harc
              have hp10 : p ≤ 10 := by omega
              have hq10 : q ≤ 10 := by omega
              have HP := Lib.hid hp
              have HQ := Lib.hid hq
              have HARC := Lib.hid harc
              have cs := hE.cells
              obtain ⟨q0, q1, q2, q3⟩ := cs
              have HE := Lib.hid hE
              have hlt' : decide ((k : Int) < (n : Int)) = true := by simpa using hlt
              clear hfr hto hp hq harc hE hak hak2 han hAs hAe
              go_wp2_with (go_at_call 69; refine HARC.out.mono ?_; rintro e w1 ⟨rfl, hb1⟩)
              have hx0 := Lib.hid (HE.out.keep (hb1.trans (((Below.refl _ w1).alloc (Nat.le_refl _) (.cells #[.int .i64 p, .int .i64 q, .int .i64 k] 112)).mono hb1.size)))
              have hblk := Lib.hid (Go.heap_alloc_new w1 (.cells #[.int .i64 p, .int .i64 q, .int .i64 k] 112))
              generalize w1.alloc (.cells #[.int .i64 p, .int .i64 q, .int .i64 k] 112) = w2 at hx0 hblk ⊢
              obtain ⟨Ba, hBa⟩ : ∃ Ba, w1.heap.size = Ba := ⟨_, rfl⟩
              rw [hBa] at hblk ⊢
              clear hBa hb1 q0 q1 q2 q3
              have a0 : w2.cell? ⟨Ba, 0, none⟩ = some (.int .i64 p) := by simp [World.cell?, hblk.out]
              have a1 : w2.cell? ⟨Ba, 1, none⟩ = some (.int .i64 q) := by simp [World.cell?, hblk.out]
              have a2 : w2.cell? ⟨Ba, 2, none⟩ = some (.int .i64 k) := by simp [World.cell?, hblk.out]
              have hne : Ba ≠ B4 := by
                rintro rfl
                obtain ⟨cs, hcs, h13, _⟩ := hx0.out.give
                rw [hblk.out] at hcs
                cases hcs
              have r0 := (hx0.out.lo HR.out (i := k) (by omega)).1
              have r1 := (hx0.out.lo HR.out (i := k) (by omega)).2
              have g0 := hx0.out.give.cell (i := p) (by omega)
              have z0 := hx0.out.give.frozen p
              have bd0 := give9_bd T C (frL l) (toL l) lo k p (by omega) (fun i hi' => ⟨HRO.out.lo0 i (by omega), by have := HRO.out.le i (by omega); have := HRO.out.hi1 i (by omega); omega⟩)
              have bl0 := HRO.out.lo0 k hlt
              have bl1 := HRO.out.le k hlt
              have bl2 := HRO.out.hi1 k hlt
              have i1 : (0 : Int) ≤ (k : Int) := by omega
              have i2 : (k : Int) < 12 := by omega
              have i3 : (0 : Int) ≤ (p : Int) := by omega
              have i4 : (p : Int) < 13 := by omega
              have wp1 : IntKind.i64.wrap (give9 k T C (frL l) (toL l) lo p - lo k) = give9 k T C (frL l) (toL l) lo p - lo k := IntWalk.i64_in _ (by omega)
              go_region
              have hx1 := Lib.hid ((hx0.out.set (v := p) (give9 k T C (frL l) (toL l) lo p - lo k) (by omega)).keep (Below.refl _ _).drew)
              have hblk1 := Lib.hid ((show (w2.setCell ⟨B4, p, none⟩ (.int .i64 (give9 k T C (frL l) (toL l) lo p - lo k))).drew.heap[Ba]? = w2.heap[Ba]? from Below.heap_setCell _ _ _ _ hne).trans hblk.out)
              generalize (w2.setCell ⟨B4, p, none⟩ (.int .i64 (give9 k T C (frL l) (toL l) lo p - lo k))).drew = w3 at hx1 hblk1 ⊢
              clear hx0 hblk a0 a1 a2 r0 r1 g0 z0 wp1 w2
              obtain ⟨g3, hg3⟩ : ∃ g3, updG (give9 k T C (frL l) (toL l) lo) p (give9 k T C (frL l) (toL l) lo p - lo k) = g3 := ⟨_, rfl⟩
              rw [hg3] at hx1
              have a0 : w3.cell? ⟨Ba, 0, none⟩ = some (.int .i64 p) := by simp [World.cell?, hblk1.out]
              have a1 : w3.cell? ⟨Ba, 1, none⟩ = some (.int .i64 q) := by simp [World.cell?, hblk1.out]
              have a2 : w3.cell? ⟨Ba, 2, none⟩ = some (.int .i64 k) := by simp [World.cell?, hblk1.out]
              have r0 := (hx1.out.lo HR.out (i := k) (by omega)).1
              have r1 := (hx1.out.lo HR.out (i := k) (by omega)).2
              have g0 := hx1.out.give.cell (i := q) (by omega)
              have z0 := hx1.out.give.frozen q
              have bd1 := give9_bd T C (frL l) (toL l) lo k q (by omega) (fun i hi' => ⟨HRO.out.lo0 i (by omega), by have := HRO.out.le i (by omega); have := HRO.out.hi1 i (by omega); omega⟩)
              have bd2 : -1000 ≤ g3 q ∧ g3 q ≤ 1000 := by rw [← hg3]; unfold updG; split <;> omega
              have i5 : (0 : Int) ≤ (q : Int) := by omega
              have i6 : (q : Int) < 13 := by omega
              have HG3 := Lib.hid hg3
              clear hg3 bd0 bd1
              have wp1 : IntKind.i64.wrap (g3 q + lo k) = g3 q + lo k := IntWalk.i64_in _ (by omega)
              go_wp2
              go_region
              have hx2 := Lib.hid ((hx1.out.set (v := q) (g3 q + lo k) (by omega)).keep (Below.refl _ _).drew)
              have hblk2 := Lib.hid ((show (w3.setCell ⟨B4, q, none⟩ (.int .i64 (g3 q + lo k))).drew.heap[Ba]? = w3.heap[Ba]? from Below.heap_setCell _ _ _ _ hne).trans hblk1.out)
              generalize (w3.setCell ⟨B4, q, none⟩ (.int .i64 (g3 q + lo k))).drew = w4 at hx2 hblk2 ⊢
              clear hx1 hblk1 a0 a1 a2 r0 r1 g0 z0 wp1 w3
              have a0 : w4.cell? ⟨Ba, 0, none⟩ = some (.int .i64 p) := by simp [World.cell?, hblk2.out]
              have a1 : w4.cell? ⟨Ba, 1, none⟩ = some (.int .i64 q) := by simp [World.cell?, hblk2.out]
              have a2 : w4.cell? ⟨Ba, 2, none⟩ = some (.int .i64 k) := by simp [World.cell?, hblk2.out]
              have hgs : ∀ i : Nat, give9 (k + 1) T C (frL l) (toL l) lo i = updG g3 q (g3 q + lo k) i := by
                intro i
                rw [give9_succ, HP.out, HQ.out, ← HG3.out]
                exact updG_two _ _ _ _ _
              have HGS := Lib.hid hgs
              clear hgs
              by_cases hpq : p = q
              · subst hpq
                have hb0 : ((p : Int) != p) = false := by simp
                go_wp2
                go_roundw
                case rel =>
                  exact ⟨k + 1, by omega, by go_num, (hx2.out.gives (fun i _ => HGS.out i)).flow (initK_skip k _ _ _ _ (HP.out.trans HQ.out.symm))⟩
                case measure => simp [intOf]; omega
              · have hb0 : ((p : Int) != q) = true := by simp; omega
                have r0 := (hx2.out.lo HR.out (i := k) (by omega)).1
                have r1 := (hx2.out.lo HR.out (i := k) (by omega)).2
                have c3 := hx2.out.cells.2.2.2
                have hkey : ∃ l, keyOf Try.prog 112 (arcV p q k) = some l := arc_key _ _ _ (wf_i64 ⟨by omega, by omega⟩) (wf_i64 ⟨by omega, by omega⟩) (wf_i64 ⟨by omega, by omega⟩)
                have hmd : ArcMap w4.drew B2 (initK k (frL l) (toL l) (fun i => hi i - lo i) (fun _ => 0) 0) := hx2.out.map.of_block rfl
                obtain ⟨w5, hrun, hm5, ho5⟩ := hmd.run_mapUpdate hkey (hi k - lo k)
                unfold arcV at hrun
                have hx3 := Lib.hid ((hx2.out.keep (Below.refl _ _).drew).mapped hm5 ho5)
                have wp1 : IntKind.i64.wrap (hi k - lo k) = hi k - lo k := IntWalk.i64_in _ (by omega)
                clear hkey hmd hm5 ho5
                go_wp2
                go_region
                go_wp2
                go_roundw
                case rel =>
                  exact ⟨k + 1, by omega, by go_num, (hx3.out.gives (fun i _ => HGS.out i)).flow (by have := initK_angle k (frL l) (toL l) (fun i => hi i - lo i) (fun _ => 0) (by rw [HP.out, HQ.out]; omega); rw [HP.out, HQ.out] at this; exact this)⟩
                case measure => simp [intOf]; omega
            · have hkn : k = n := by omega
              have hlt' : decide ((k : Int) < (n : Int)) = false := by simp; omega
              have z10 := hE.give.frozen 10
              have c10 := hE.give.cell (i := 10) (by omega)
              have HE := Lib.hid hE
              have HK := Lib.hid hkn
              clear hE hkn
              go_wp2
              have hn12 : n ≤ 12 := by rw [← HL.out]; exact HO.out.len
              have hgb : ∀ v : Nat, -1000 ≤ give9 n T C (frL l) (toL l) lo v ∧ give9 n T C (frL l) (toL l) lo v ≤ 1000 := fun v => by
                have := give9_bd T C (frL l) (toL l) lo n v hn12 (fun i hi' => ⟨HRO.out.lo0 i (by omega), by have := HRO.out.le i (by omega); have := HRO.out.hi1 i (by omega); omega⟩)
                omega
              have HGB := Lib.hid hgb
              clear hgb
              have hE4 := Lib.hid ((((HK.out ▸ HE.out : BegEnv B0 B1 B2 B3 B4 w (some ⟨b, o, none⟩) n cap T C rs wr (initK n (frL l) (toL l) (fun i => hi i - lo i) (fun _ => 0) 0) (give9 n T C (frL l) (toL l) lo)).set (v := 10) 0 (by omega)).gives (fun i _ => gv4_zero n T C (frL l) (toL l) lo i)).flow (initK_give n _ _ _ _ (giveN n T C (frL l) (toL l) lo)))
              generalize wr.setCell ⟨B4, 10, none⟩ (.int .i64 0) = wx at hE4 ⊢
              clear z10 c10 HE
              go_loopw [94] (Beg4 B0 B1 B2 B3 B4 w (some ⟨b, o, none⟩) n cap T C rs l lo hi) (fun i _ => 10 - (intOf i).toNat)
              case atStart => exact ⟨0, by omega, rfl, hE4.out⟩
              case round =>
                clear hE4 hlt hlt' HK hk
                obtain ⟨k, hk, rfl, hE⟩ := hrel
                by_cases hlt : k < 10
                · have hlt' : decide ((k : Int) < 10) = true := by simp; omega
                  have hb1 := HGB.out k
                  have hb2 := sumR_bd (k := k) (h := fun u => give9 n T C (frL l) (toL l) lo u) (B := 1000) (fun i _ => HGB.out i)
                  obtain ⟨G, hG⟩ : ∃ G, give9 n T C (frL l) (toL l) lo k = G := ⟨_, rfl⟩
                  obtain ⟨Sm, hS⟩ : ∃ Sm, sumR k (fun u => give9 n T C (frL l) (toL l) lo u) = Sm := ⟨_, rfl⟩
                  rw [hG] at hb1
                  rw [hS] at hb2
                  have ck := hE.give.cell (i := k) (by omega)
                  have c10 := hE.give.cell (i := 10) (by omega)
                  rw [show gv4 n T C (frL l) (toL l) lo k k = G from by unfold gv4; rw [if_neg (by omega)]; exact hG] at ck
                  rw [show gv4 n T C (frL l) (toL l) lo k ((10 : Nat) : Int) = -Sm from by unfold gv4; rw [if_pos (by omega), hS]] at c10
                  have z10 := hE.give.frozen 10
                  have hE1 := (hE.set (v := 10) (-Sm - G) (by omega)).gives (gv' := gv4 n T C (frL l) (toL l) lo (k + 1)) (fun i _ => by rw [gv4_step, hS, hG])
                  have hGN : giveN n T C (frL l) (toL l) lo k = G := by unfold giveN; rw [if_neg (by omega)]; exact hG
                  have hnd := needs_any B3 B2 n (frL l) (toL l) (fun i => hi i - lo i) (giveN n T C (frL l) (toL l) lo) k _ (by omega) (by rw [hGN]; omega) (by rw [hGN]; omega) hE1.cells.2.2.2 hE1.map
                  rw [hGN] at hnd
                  have HE1 := Lib.hid hE1
                  have HND := Lib.hid hnd
                  have hi0 : (0 : Int) ≤ (k : Int) := by omega
                  have hi1 : (k : Int) < 10 := by omega
                  have hb3 : -10000 ≤ Sm ∧ Sm ≤ 10000 := by omega
                  clear hE1 hnd hE hG hS hGN hb2
                  go_wp2_with fail
                  refine HND.out.mono ?_
                  rintro e w' ⟨rfl, hm', ho'⟩
                  have hx := Lib.hid (HE1.out.mapped hm' ho')
                  clear hm' ho'
                  go_wp2_with fail
                  go_roundw
                  case rel => exact ⟨k + 1, by omega, by go_num, hx.out⟩
                  case measure => simp [intOf]; omega
                · have hlt' : decide ((k : Int) < 10) = false := by simp; omega
                  obtain rfl : k = 10 := by omega
                  have c10 := hE.give.cell (i := 10) (by omega)
                  rw [gv4_all] at c10
                  obtain ⟨G, hG⟩ : ∃ G, giveN n T C (frL l) (toL l) lo ((10 : Nat) : Int) = G := ⟨_, rfl⟩
                  have hb2 := sumR_bd (k := 10) (h := fun u => give9 n T C (frL l) (toL l) lo u) (B := 1000) (fun i _ => HGB.out i)
                  have hGb : -10000 ≤ G ∧ G ≤ 10000 := by rw [← hG]; unfold giveN; rw [if_pos (by omega)]; omega
                  rw [hG] at c10
                  have hnd := needs_any B3 B2 n (frL l) (toL l) (fun i => hi i - lo i) (giveN n T C (frL l) (toL l) lo) 10 wr (by omega) (by rw [hG]; omega) (by rw [hG]; omega) hE.cells.2.2.2 hE.map
                  rw [hG] at hnd
                  have HND := Lib.hid hnd
                  have HE := Lib.hid hE
                  clear hnd hE hG hb2
                  go_wp2_with fail
                  refine HND.out.mono ?_
                  rintro e w' ⟨rfl, hm', ho'⟩
                  have hx := Lib.hid ((HE.out.mapped hm' ho').flow (initK_all n _ _ _ _))
                  clear hm' ho' HND HE c10
                  go_wp2_with fail
                  have hNb : ∀ v : Nat, v < 11 → -10000 ≤ giveN n T C (frL l) (toL l) lo v ∧ giveN n T C (frL l) (toL l) lo v ≤ 10000 := fun v hv => by
                    have h1 := HGB.out v
                    have hb2 := sumR_bd (k := 10) (h := fun u => give9 n T C (frL l) (toL l) lo u) (B := 1000) (fun i _ => HGB.out i)
                    unfold giveN
                    split <;> omega
                  have HNB := Lib.hid hNb
                  clear hNb
                  go_loop [5, 115] (fun d i => ∃ k : Nat, k ≤ 11 ∧ i = .int .i64 k ∧ d = .int .i64 (sumR k (fun v => max 0 (giveN n T C (frL l) (toL l) lo v)))) (fun _ i => 11 - (intOf i).toNat)
                  case atStart => exact ⟨0, by omega, rfl, rfl⟩
                  case round =>
                    obtain ⟨k, hk, rfl, rfl⟩ := hrel
                    have hb5 := sum_max_bd (k := k) (h := fun v => giveN n T C (frL l) (toL l) lo v) (B := 10000) (by omega) (fun i hi => (HNB.out i (by omega)).2)
                    by_cases hlt : k < 11
                    · have hlt' : decide ((k : Int) < 11) = true := by simp; omega
                      have ck := hx.out.give.cell (i := k) (by omega)
                      rw [gv4_all] at ck
                      have hb6 := HNB.out k hlt
                      have hsn : sumR (k + 1) (fun v => max 0 (giveN n T C (frL l) (toL l) lo v)) = sumR k (fun v => max 0 (giveN n T C (frL l) (toL l) lo v)) + max 0 (giveN n T C (frL l) (toL l) lo k) := rfl
                      have HSN := Lib.hid hsn
                      clear hsn
                      obtain ⟨D, hD⟩ : ∃ D, sumR k (fun v => max 0 (giveN n T C (frL l) (toL l) lo v)) = D := ⟨_, rfl⟩
                      obtain ⟨G, hG⟩ : ∃ G, giveN n T C (frL l) (toL l) lo k = G := ⟨_, rfl⟩
                      rw [hD] at hb5
                      rw [hG] at hb6 ck
                      rw [hD, hG] at HSN
                      rw [hD]
                      clear hD hG
                      have hi0 : (0 : Int) ≤ (k : Int) := by omega
                      have hb7 : 0 ≤ D ∧ D ≤ 1000000 := by omega
                      clear hb5
                      go_wp2_with fail
                      refine ⟨⟨k + 1, by omega, by go_num, ?_⟩, by simp [intOf]; omega⟩
                      rw [HSN.out]
                      congr 1
                      split <;> omega
                    · have hlt' : decide ((k : Int) < 11) = false := by simp; omega
                      obtain rfl : k = 11 := by omega
                      have hE := hx.out
                      have c1 : w'.cell? ⟨B3, 0, none⟩ = some (.slice (some ⟨b, o, none⟩) n cap) := by simp [World.cell?, hE.work]
                      have hfin := Lib.hid (⟨B3, B2, _, rfl, hE.below, by omega, by omega, c1, hE.cells.2.2.2, hE.map, rfl⟩ : BegPost (some ⟨b, o, none⟩) n cap T C l lo hi w (.returned (.tuple #[.pointer (some ⟨B3, 0, none⟩), .int .i64 (sumR 11 (fun v => max 0 (giveN n T C (frL l) (toL l) lo v)))])) w')
                      clear hE c1 hb5
                      go_wp2_with fail
                      go_ret2
                      exact hfin.out
end Go.Proofs.Ytkloaeaepjoijaa

/-
  truth: a truth in rooms, or a cut that denies.
-/
import Derived.Test.YtkloaeaepjoijaaBegin
import Derived.Test.YtkloaeaepjoijaaTruth
import Derived.Deep.AppendLies
set_option linter.all false
namespace Go.Proofs.Ytkloaeaepjoijaa
open Go.RowKit Go.WalkArith

theorem out11_init (len : Nat) (fr to cap g : Int → Int) (hfr : ∀ i : Nat, i < len → 0 ≤ fr i ∧ fr i ≤ 10) : outR len (initF len fr to cap g) 11 = sumR 11 (fun v => max 0 (g v)) := by
  have s13 : ∀ h : Nat → Int, sumR 13 h = sumR 11 h + h 11 + h 12 := fun _ => rfl
  have i1 : ∀ u v : Int, initF len fr to cap g u v (-1) = if u = 11 ∧ 0 ≤ v ∧ v ≤ 10 then max 0 (g v) else if v = 12 ∧ 0 ≤ u ∧ u ≤ 10 then max 0 (-g u) else 0 := fun u v => by unfold initF; rw [if_pos rfl]
  rw [out_split]
  have e1 : sumR 13 (fun u => initF len fr to cap g 11 u (-1)) = sumR 11 (fun v => max 0 (g v)) := by
    rw [s13, i1, i1, if_neg (fun h => by omega), if_neg (fun h => by omega), if_neg (fun h => by omega), if_neg (fun h => by omega)]
    rw [sumR_congr (k := fun v => max 0 (g v)) (fun v hv => by rw [i1, if_pos ⟨rfl, by omega, by omega⟩])]
    omega
  have e2 : sumR len (fun i => sumR 13 (fun u => initF len fr to cap g 11 u i)) = 0 := by
    rw [sumR_congr (k := fun _ => 0)]
    · exact sumR_zero _
    · intro i hi'
      rw [sumR_congr (k := fun _ => 0)]
      · exact sumR_zero _
      · intro u _
        have := hfr i hi'
        unfold initF
        rw [if_neg (by omega), if_neg (fun h => by omega)]
  rw [e1, e2]; omega

theorem initF_cap {len : Nat} {fr to cap g : Int → Int} (hcap : ∀ i : Nat, i < len → 0 ≤ cap i ∧ cap i ≤ 1000) (hg : ∀ v : Nat, v < 11 → -10000 ≤ g v ∧ g v ≤ 10000) : capOk (initF len fr to cap g) := by
  have hb : ∀ x y z, 0 ≤ initF len fr to cap g x y z ∧ initF len fr to cap g x y z ≤ 10000 := by
    intro x y z
    unfold initF
    split
    · split
      · rename_i h
        have := hg y.toNat (by omega)
        rw [show ((y.toNat : Nat) : Int) = y by omega] at this
        omega
      · split
        · rename_i h
          have := hg x.toNat (by omega)
          rw [show ((x.toNat : Nat) : Int) = x by omega] at this
          omega
        · omega
    · split
      · rename_i h
        have := hcap z.toNat (by omega)
        rw [show ((z.toNat : Nat) : Int) = z by omega] at this
        omega
      · omega
  intro x y z
  have h1 := hb x y z
  have h2 := hb y x z
  omega

/-- What truth hands back. -/
def TruthPost (n : Nat) (T C : Int) (l : List Ang) (lo hi : Int → Int) (w : World) (e : Ending) (w' : World) : Prop :=
  Below w.heap.size w w' ∧
  ((e = .returned (.tuple #[.slice none 0 0, .bool false]) ∧ ∃ m : Int → Bool, m 10 = false ∧ (diffM T C m < lowM n (frL l) (toL l) lo hi m ∨ highM n (frL l) (toL l) lo hi m < diffM T C m)) ∨
   (∃ (v : Value) (x : Int → Int), e = .returned (.tuple #[v, .bool true]) ∧ w'.ownsRow w.heap.size 3 1 v n ((List.range n).map fun i : Nat => .int .i64 (x i)) ∧ TruthN n T C (frL l) (toL l) lo hi x))

theorem _root_.Go.World.ownsRow.lower {w : World} {base base' : Nat} {e : TypeId} {size : Nat} {v : Value} {n : Nat} {xs : List Value} (h : w.ownsRow base e size v n xs) (hb : base' ≤ base) : w.ownsRow base' e size v n xs := by
  obtain ⟨h1, h2 | ⟨g, cap, cur, h3, h4, h5⟩⟩ := h
  · exact ⟨h1, .inl h2⟩
  · exact ⟨h1, .inr ⟨g, cap, cur, h3, Nat.le_trans hb h4, h5⟩⟩

def TRel (n : Nat) (w2 : World) (x : Int → Int) (v i : Value) (wr : World) : Prop :=
  ∃ k : Nat, k ≤ n ∧ i = .int .i64 k ∧ wr.ownsRow w2.heap.size 3 1 v k ((List.range k).map fun i : Nat => .int .i64 (x i)) ∧ Below w2.heap.size w2 wr

theorem Try.info3 : (Try.prog.info? 3).map (fun i => (i.zero, i.size, i.bytes)) = some (some (.int .i64 0), 1, 8) := by kernel_rfl

theorem heap_alloc2 (w : World) (o1 o2 : Obj) : ((w.alloc o1).alloc o2).heap[w.heap.size + 1]? = some o2 := by
  have := Go.heap_alloc_new (w.alloc o1) o2
  simpa using this

set_option maxRecDepth 100000 in
set_option maxHeartbeats 4000000 in
theorem truth_any (b o n cap : Nat) (T C : Int) (l : List Ang) (rs : Array Value) (lo hi : Int → Int) (w : World) (hl : l.length = n) (hok : NetOk l T C) (hA : AngsAt w (some ⟨b, o, none⟩) l) (hrs : RoomsV rs lo hi) (hro : RoomsOk n lo hi) :
    Calls Try.prog 80 #[.agg #[.slice (some ⟨b, o, none⟩) n cap, .int .i64 T, .int .i64 C], .agg rs] w (TruthPost n T C l lo hi w) := by
  have HR := Lib.hid hrs
  have HO := Lib.hid hok
  have HL := Lib.hid hl
  have HRO := Lib.hid hro
  have HA := Lib.hid hA
  have hpos : 0 < l.length := hok.pos
  obtain ⟨b', o', hAe, hAs⟩ := hA.resolve_left (fun h => by rw [h] at hpos; simp at hpos)
  obtain ⟨rfl, rfl⟩ : b = b' ∧ o = o' := by simpa using hAe
  have hbl := World.block_lt_of_cell? w _ (hAs 0 hpos).1
  clear hrs hok hl hro hA hAs hAe
  have hAX : ∀ X, Below w.heap.size w X → AngsAt X (some ⟨b, o, none⟩) l := fun X hX => by
    obtain ⟨b', o', hAe, hAs⟩ := HA.out.resolve_left (fun h => by rw [h] at hpos; simp at hpos)
    obtain ⟨rfl, rfl⟩ : b = b' ∧ o = o' := by simpa using hAe
    refine .inr ⟨b, o, rfl, fun i hi' => ?_⟩
    have hc := fun i => hX.cell (p := ⟨b, i, none⟩) hbl
    have hak := hAs i hi'
    exact ⟨(hc _).trans hak.1, (hc _).trans hak.2.1, (hc _).trans hak.2.2.1, (hc _).trans hak.2.2.2⟩
  have HAX := Lib.hid hAX
  clear hAX
  go_enter Try.func80, Try.ntmps80
  go_wp2_with (refine wpList_load_row rfl 109 _ rfl _ rfl 109 rs _ _ (heap_alloc2 _ _ _) Try.underlying109 rfl HR.out.size ?_)
  have hB0 : Below w.heap.size w ((w.alloc (.cells #[.slice (some ⟨b, o, none⟩) n cap, .int .i64 T, .int .i64 C] 33)).alloc (.cells rs 109)) := ((Below.refl _ _).alloc (Nat.le_refl _) _).alloc (by simp) _
  have q0 : ((w.alloc (.cells #[.slice (some ⟨b, o, none⟩) n cap, .int .i64 T, .int .i64 C] 33)).alloc (.cells rs 109)).heap[w.heap.size]? = some (.cells #[.slice (some ⟨b, o, none⟩) n cap, .int .i64 T, .int .i64 C] 33 (0, 0)) := (Below.heap_alloc _ _ _ (by simp)).trans (heap_new_at _ _ _ rfl)
  have q1 := heap_alloc2 w (.cells #[.slice (some ⟨b, o, none⟩) n cap, .int .i64 T, .int .i64 C] 33) (.cells rs 109)
  have hsz0 : ((w.alloc (.cells #[.slice (some ⟨b, o, none⟩) n cap, .int .i64 T, .int .i64 C] 33)).alloc (.cells rs 109)).heap.size = w.heap.size + 2 := by simp
  generalize (w.alloc (.cells #[.slice (some ⟨b, o, none⟩) n cap, .int .i64 T, .int .i64 C] 33)).alloc (.cells rs 109) = W0 at hB0 q0 q1 hsz0 ⊢
  refine (begin_any b o n cap T C l rs lo hi W0 HL.out HO.out (HAX.out W0 hB0) HR.out HRO.out).mono ?_
  rintro e w1 ⟨g, mb, due, rfl, hb1, hmb, hgb, hsl, hmp, hmap, hdue⟩
  have hn12 : n ≤ 12 := by rw [← HL.out]; exact HO.out.len
  have hfr10 : ∀ i : Nat, i < n → 0 ≤ frL l i ∧ frL l i ≤ 10 := fun i hi' => by
    have := HO.out.fr (i := i) (by rw [HL.out]; exact hi')
    have := HO.out.t1
    omega
  have hgb9 : ∀ v : Nat, -1000 ≤ give9 n T C (frL l) (toL l) lo v ∧ give9 n T C (frL l) (toL l) lo v ≤ 1000 := fun v => by
    have := give9_bd T C (frL l) (toL l) lo n v hn12 (fun i hi' => ⟨HRO.out.lo0 i (by omega), by have := HRO.out.le i (by omega); have := HRO.out.hi1 i (by omega); omega⟩)
    omega
  have hNb : ∀ v : Nat, v < 11 → -10000 ≤ giveN n T C (frL l) (toL l) lo v ∧ giveN n T C (frL l) (toL l) lo v ≤ 10000 := fun v hv => by
    have h1 := hgb9 v
    have hb2 := sumR_bd (k := 10) (h := fun u => give9 n T C (frL l) (toL l) lo u) (B := 1000) (fun i _ => hgb9 i)
    unfold giveN
    split <;> omega
  have hcapk : capOk (initF n (frL l) (toL l) (fun i => hi i - lo i) (giveN n T C (frL l) (toL l) lo)) :=
    initF_cap (fun i hi' => by have := HRO.out.lo0 i hi'; have := HRO.out.le i hi'; have := HRO.out.hi1 i hi'; omega) hNb
  have ho11 := out11_init n (frL l) (toL l) (fun i => hi i - lo i) (giveN n T C (frL l) (toL l) lo) hfr10
  have hdb := sum_max_bd (k := 11) (h := fun v => giveN n T C (frL l) (toL l) lo v) (B := 10000) (by omega) (fun i hi => (hNb i (by omega)).2)
  rw [← hdue] at ho11 hdb
  have hgm : g ≠ mb := by rintro rfl; have := cell_map_none hmap 3; rw [this] at hmp; cases hmp
  have hflow := Lib.hid (flow_any g mb n _ w1 (by omega) ⟨_, _, hsl⟩ hmp hmap hcapk (by rw [ho11]; omega))
  have HD := Lib.hid hdue
  have HO11 := Lib.hid ho11
  have HCK := Lib.hid hcapk
  clear hdue ho11 hcapk hNb hgb9 hmap hfr10
  go_wp2_with fail
  refine hflow.out.mono ?_
  clear hflow
  rintro e w2 ⟨sum, f, S, rfl, hs0, hm, hfl, hS1, hS2, hk, hcl⟩
  have hsl1 := hfl.le
  rw [HO11.out] at hsl1
  have HF := Lib.hid hfl
  have HCL := Lib.hid hcl
  have HM := Lib.hid hm
  have hB2 : Below w.heap.size w w2 := (hB0.trans (hb1.mono hB0.size)).trans ((hk.below (B := w.heap.size) (by omega) (by have := hb1.size; omega)))
  have hfr' : ∀ i : Int, 0 ≤ i → i < (n : Int) → (0 ≤ frL l i ∧ frL l i ≤ 4) ∨ frL l i = 10 := fun i h0 h1 => by
    obtain ⟨j, rfl⟩ := Int.eq_ofNat_of_zero_le h0
    have := HO.out.fr (i := j) (by rw [HL.out]; omega)
    have := HO.out.t1
    omega
  have hto' : ∀ i : Int, 0 ≤ i → i < (n : Int) → (5 ≤ toL l i ∧ toL l i ≤ 9) ∨ toL l i = 10 := fun i h0 h1 => by
    obtain ⟨j, rfl⟩ := Int.eq_ofNat_of_zero_le h0
    have := HO.out.to (i := j) (by rw [HL.out]; omega)
    have := HO.out.c1
    omega
  have HFR := Lib.hid hfr'
  have HTO := Lib.hid hto'
  clear hfl hcl hm hfr' hto'
  by_cases hsd : sum = due
  · subst hsd
    have hT := Lib.hid (flow_truth HFR.out HTO.out (fun i hi' => HRO.out.le i hi') HF.out.nn HF.out.pair HF.out.bal HD.out)
    have hbb : (sum != sum) = false := by simp
    have hs1 := hb1.size
    have hs2 := hk.size
    have n0 : w2.heap[w.heap.size]? = some (.cells #[.slice (some ⟨b, o, none⟩) n cap, .int .i64 T, .int .i64 C] 33 (0, 0)) := (hk.block _ (by omega) (by omega)).trans ((hb1.block _ (by omega)).trans q0)
    have n1 : w2.heap[w.heap.size + 1]? = some (.cells rs 109 (0, 0)) := (hk.block _ (by omega) (by omega)).trans ((hb1.block _ (by omega)).trans q1)
    have n2 : w2.cell? ⟨g, 3, none⟩ = some (.map (some mb)) := hk.cell hmp hgm
    have x0 : w2.cell? ⟨w.heap.size, 0, none⟩ = some (.slice (some ⟨b, o, none⟩) n cap) := by simp [World.cell?, n0]
    obtain ⟨i0, hi0, hz0, hz1, hz2⟩ := info_parts Try.info3
    obtain ⟨x, hx⟩ : ∃ x : Int → Int, (fun i => lo i + f (toL l i) (frL l i) i) = x := ⟨_, rfl⟩
    rw [hx] at hT
    have HX := Lib.hid hx
    clear hx q0 q1 hB0 hb1 hsl hmp
    go_wp2_with fail
    go_loopw [8, 24] (TRel n w2 x) (fun _ i _ => n - (intOf i).toNat)
    case atStart => exact ⟨0, by omega, rfl, World.ownsRow_nil _ _ _ _, Below.refl _ _⟩
    case round =>
      obtain ⟨k, hk', rfl, hown, hbel⟩ := hrel
      have hsz := hbel.size
      by_cases hlt : k < n
      · have hlt' : decide ((k : Int) < (n : Int)) = true := by simpa using hlt
        have m0 : wr.heap[w.heap.size]? = some (.cells #[.slice (some ⟨b, o, none⟩) n cap, .int .i64 T, .int .i64 C] 33 (0, 0)) := (hbel.block _ (by omega)).trans n0
        have y0 : wr.cell? ⟨w.heap.size, 0, none⟩ = some (.slice (some ⟨b, o, none⟩) n cap) := by simp [World.cell?, m0]
        have y1 : wr.cell? ⟨w.heap.size, 1, none⟩ = some (.int .i64 T) := by simp [World.cell?, m0]
        have y2 : wr.cell? ⟨w.heap.size, 2, none⟩ = some (.int .i64 C) := by simp [World.cell?, m0]
        have hlk : k < l.length := by rw [HL.out]; exact hlt
        have hAw := HAX.out wr (hB2.trans (hbel.mono (by omega)))
        obtain ⟨b', o', hAe, hAs⟩ := hAw.resolve_left (fun h => by rw [h] at hlk; simp at hlk)
        obtain ⟨rfl, rfl⟩ : b = b' ∧ o = o' := by simpa using hAe
        have hak := hAs k hlk
        have han := HO.out.ang l[k] (List.getElem_mem hlk)
        have ht1 := HO.out.t1
        have hc1 := HO.out.c1
        have harc := arc_any b o n cap T C k l[k] wr hlt (by omega) hak (by omega) (by omega) (by omega) (by omega)
        rw [← frL_at hlk, ← toL_at hlk] at harc
        obtain ⟨p, hp⟩ : ∃ p, frL l k = p := ⟨_, rfl⟩
        obtain ⟨q, hq⟩ : ∃ q, toL l k = q := ⟨_, rfl⟩
        have hfr := HFR.out k (by omega) (by omega)
        have hto := HTO.out k (by omega) (by omega)
        rw [hp] at harc hfr
        rw [hq] at harc hto
        have HARC := Lib.hid harc
        clear harc hak hAs hAe hAw han m0 ht1 hc1
        go_wp2_with (go_at_call 69; refine HARC.out.mono ?_; rintro e w3 ⟨rfl, hb3⟩)
        have hs3 := hb3.size
        have hg3 : wr.grownBy (w3.alloc (.cells #[.int .i64 p, .int .i64 q, .int .i64 k] 112)) none := by
          have hbb := hb3.trans (((Below.refl _ w3).alloc (Nat.le_refl _) (.cells #[.int .i64 p, .int .i64 q, .int .i64 k] 112)).mono hb3.size)
          exact ⟨hbb.os, hbb.tape, hbb.output, hbb.size, fun j hj _ => hbb.block j hj⟩
        have hown4 := hown.kept hg3 (by cases hv : u8.ownBlock with | none => exact .inl rfl | some j => exact .inr (by simp))
        have hbel4 : Below w2.heap.size w2 (w3.alloc (.cells #[.int .i64 p, .int .i64 q, .int .i64 k] 112)) := hbel.trans ⟨hg3.os, hg3.tape, hg3.output, hg3.size, fun j hj => hg3.block j (by omega) (by simp)⟩
        have hblk := Go.heap_alloc_new w3 (.cells #[.int .i64 p, .int .i64 q, .int .i64 k] 112)
        have hsz4 : w3.heap.size < (w3.alloc (.cells #[.int .i64 p, .int .i64 q, .int .i64 k] 112)).heap.size := by simp
        have hol := hown.lt
        generalize w3.alloc (.cells #[.int .i64 p, .int .i64 q, .int .i64 k] 112) = w4 at hown4 hbel4 hblk hsz4 ⊢
        obtain ⟨Ba, hBa⟩ : ∃ Ba, w3.heap.size = Ba := ⟨_, rfl⟩
        rw [hBa] at hblk hsz4 hs3 ⊢
        have a0 : w4.cell? ⟨Ba, 0, none⟩ = some (.int .i64 p) := by simp [World.cell?, hblk]
        have a1 : w4.cell? ⟨Ba, 1, none⟩ = some (.int .i64 q) := by simp [World.cell?, hblk]
        have hgl : g < w2.heap.size := World.block_lt_of_cell? w2 _ n2
        have r0 : w4.cell? ⟨w.heap.size + 1, k * 2, none⟩ = some (.int .i64 (lo k)) := by
          simp [World.cell?, (hbel4.block (w.heap.size + 1) (by omega)).trans n1, HR.out.lo k (by omega)]
        have r1 : w4.cell? ⟨g, 3, none⟩ = some (.map (some mb)) := (hbel4.cell (p := ⟨g, 3, none⟩) hgl).trans n2
        have hmbl := HM.out.lt
        have hm4 : ArcMap w4.drew mb f := HM.out.of_block (hbel4.block mb hmbl)
        have hkey : ∃ l, keyOf Try.prog 112 (arcV q p k) = some l := arc_key _ _ _ (wf_i64 ⟨by omega, by omega⟩) (wf_i64 ⟨by omega, by omega⟩) (wf_i64 ⟨by omega, by omega⟩)
        have hlkp := hm4.run_lookup hkey
        unfold arcV at hlkp
        have hfc : 0 ≤ f q p k ∧ f q p k + f p q k ≤ 1000000 := (HF.out.cap HCK.out) q p k
        have hfc2 : 0 ≤ f p q k ∧ f p q k + f q p k ≤ 1000000 := (HF.out.cap HCK.out) p q k
        have bl0 := HRO.out.lo0 k hlt
        have bl1 := HRO.out.le k hlt
        have bl2 := HRO.out.hi1 k hlt
        have hxk : x k = lo k + f q p k := by rw [← HX.out]; simp only []; rw [hp, hq]
        obtain ⟨L, hL⟩ : ∃ L, lo k = L := ⟨_, rfl⟩
        obtain ⟨F, hF⟩ : ∃ F, f q p k = F := ⟨_, rfl⟩
        rw [hL] at r0 bl0 bl1 hxk
        rw [hF] at hlkp hfc hxk
        have e1 : u8.ownBlock ≠ some Ba := fun e => by have := hol _ e; omega
        have e2 : u8.ownBlock ≠ some g := fun e => by have := hol _ e; omega
        have e3 : u8.ownBlock ≠ some (w.heap.size + 1) := fun e => by have := hol _ e; omega
        have wp1 : IntKind.i64.wrap (L + F) = L + F := IntWalk.i64_in _ (by omega)
        have i1 : (0 : Int) ≤ (k : Int) := by omega
        have i2 : (k : Int) < 12 := by omega
        have HXK := Lib.hid hxk
        have l1 : Ba < w4.heap.size := hsz4
        have l2 : g < w4.heap.size := World.block_lt_of_cell? w4 _ r1
        have l3 : w.heap.size + 1 < w4.heap.size := World.block_lt_of_cell? w4 _ r0
        have l4 : w2.heap.size ≤ w4.heap.size := hbel4.size
        clear hxk hL hF hkey hm4 hol hblk hBa hg3 hown hbel y0 y1 y2 hfc hfc2 hp hq
        go_region_held3 (fun X => X.cell? ⟨w.heap.size + 1, k * 2, none⟩ = some (.int .i64 L) ∧ X.cell? ⟨g, 3, none⟩ = some (.map (some mb)) ∧ X.cell? ⟨Ba, 0, none⟩ = some (.int .i64 p) ∧ X.cell? ⟨Ba, 1, none⟩ = some (.int .i64 q))
          (first
            | go_keep
            | (go_split_ands
               refine ⟨?_, ?_, ?_, ?_⟩
               · (rw [hgrow.cell_far _ (by simp; omega) (Ne.symm e3)]; assumption)
               · (rw [hgrow.cell_far _ (by simp; omega) (Ne.symm e2)]; assumption)
               · (rw [hgrow.cell_far _ (by simp; omega) (Ne.symm e1)]; assumption)
               · (rw [hgrow.cell_far _ (by simp; omega) (Ne.symm e1)]; assumption)))
          ((refine step_append_lies _ (by rfl) _ _ _ (by rfl) w2.heap.size 3 i0 _ 1 8 Try.underlying25 hi0 hz0 hz1 hz2 rfl (by omega) u8 k _ (by rfl) ((hown4.alloc _).drew)
              ⟨w4.heap.size, 0, none⟩ 1 1 [.int .i64 (L + F)] (by rfl) (by rfl) (World.news_of_block (cs := #[.int .i64 (L + F)]) (t := 3) (fr := (0, 0)) (heap_alloc_new w4 _)) (by simp [Value.oneCell'])
              (by omega) (by unfold maxLen; omega) (by omega) (by simp; omega) (w4.heap.size + 1) (by simp) ?_; intro gg cap' w5 hown5 hgrow hat hlt5))
        have hbel5 : Below w2.heap.size w2 w5 := by
          refine hbel4.trans ?_
          have hbx : Below w2.heap.size w4 (w4.alloc (.cells #[.int .i64 (L + F)] 3)).drew := (((Below.refl _ w4).alloc (Nat.le_refl _) _).mono l4).drew
          refine hbx.trans ⟨hgrow.os, hgrow.tape, hgrow.output, hgrow.size, fun j hj => hgrow.block j (by simp; omega) (fun e => ?_)⟩
          have := hown4.lt j e.symm
          omega
        have hown6 : w5.ownsRow w2.heap.size 3 1 (.slice (some ⟨gg, 0, none⟩) (k + 1) cap') (k + 1) ((List.range (k + 1)).map fun i : Nat => .int .i64 (x i)) := by
          rw [List.range_succ, List.map_append, List.map_singleton, HXK.out]
          exact hown5
        have HB5 := Lib.hid hbel5
        have HO6 := Lib.hid hown6
        clear hbel5 hown6 hown5 hgrow hat hown4 hbel4
        go_wp2_with fail
        go_roundw
        case rel => exact ⟨k + 1, by omega, by go_num, HO6.out, HB5.out⟩
        case measure => simp [intOf]; omega
      · have hlt' : decide ((k : Int) < (n : Int)) = false := by simpa using hlt
        obtain rfl : k = n := by omega
        have hfin : TruthPost k T C l lo hi w (.returned (.tuple #[u8, .bool true])) wr := ⟨hB2.trans (hbel.mono (by omega)), .inr ⟨u8, x, rfl, hown.lower (by omega), hT.out⟩⟩
        have HFIN := Lib.hid hfin
        clear hfin hown hbel
        go_wp2_with fail
        go_ret2
        exact HFIN.out
  · have hbb : (sum != due) = true := by simpa using hsd
    have hden := cut_denies (m := fun v => S v == !S 10) (fun i h0 h1 => by have := HFR.out i h0 h1; omega) (fun i h0 h1 => by have := HTO.out i h0 h1; omega) HF.out.pair HF.out.bal hS1 hS2 HCL.out (by rw [← HD.out]; omega) (fun _ => rfl)
    have hfin : TruthPost n T C l lo hi w (.returned (.tuple #[.slice none 0 0, .bool false])) w2 := ⟨hB2, .inl ⟨rfl, _, by cases S 10 <;> rfl, hden⟩⟩
    have HFIN := Lib.hid hfin
    clear hden hfin
    go_wp2_with fail
    go_ret2
    exact HFIN.out
end Go.Proofs.Ytkloaeaepjoijaa

/-
  ProveTruth.
  rising, ProveCut.
  Plain: what ProveTruth says; the chapter's net. six, ints.
  The flashes' reference: Same, IsText, Signs; Code; a number by digits and back.
  slices.Clone over numbers.
-/
import Derived.Test.YtkloaeaepjoijaaT04
import Derived.Test.YtkloaeaepjoijaaT07
import Derived.Deep.AppendLies
import Derived.Outline
set_option linter.all false
namespace Go.Proofs.Ytkloaeaepjoijaa
section
open Go.RowKit Go.WalkArith
theorem extract_two {rs : Array Value} {i : Nat} {a b : Value} (h0 : rs[i]? = some a) (h1 : rs[i + 1]? = some b) : rs.extract i (i + 2) = #[a, b] := by
  have l1 := (Array.getElem?_eq_some_iff.1 h1).1
  apply Array.ext
  · simp; omega
  · intro j h2 h3
    have h4 : j < 2 := by simpa using h3
    rw [Array.getElem_extract]
    match j, h4 with
    | 0, _ => simpa using (Array.getElem?_eq_some_iff.1 h0).2
    | 1, _ => simpa using (Array.getElem?_eq_some_iff.1 h1).2
theorem run_index_rooms {rs : Array Value} {lo hi : Int → Int} (h : RoomsV rs lo hi) {k : Nat} (hk : k < 12) (w : World) :
    (Instr.index 109 (.agg rs) (.int .i64 k)).run Try.prog w = .ok (.agg #[.int .i64 (lo k), .int .i64 (hi k)]) w := by
  have hu : Try.prog.underlying 109 = some (.array 12 58) := Try.underlying109
  have hsz : (sizeOf 58).run Try.prog w = .ok 2 w := by kernel_rfl
  have hag : (isAgg 58).run Try.prog w = .ok true w := by kernel_rfl
  have he := extract_two (h.lo k hk) (h.hi k hk)
  simp [Instr.index, asIntOf, run_underlying hu, part, hsz, hag, Result.andThen, he]
  omega
/-- A list as a function. -/
def fnOf (xs : List Int) (i : Int) : Int := xs.getD i.toNat 0
theorem fnOf_at {xs : List Int} {i : Nat} (h : i < xs.length) : fnOf xs i = xs[i] := by simp [fnOf, h]
/-- What comes together at a node. -/
def sumsP (l : List Ang) (x : Int → Int) (k : Nat) (v : Int) : Int := sumR k fun i => (if frL l i = v then x i else 0) + (if toL l i = v then x i else 0)
def roomsB (l : List Ang) (err : Int) (x : Int → Int) (k : Nat) : Bool := (List.range k).all fun i => inB (x i) (roomLo l err [] i) (roomHi l err [] i)
def sumsB (l : List Ang) (T C : Int) (x : Int → Int) : Bool := ((List.range T.toNat).all fun t => sumsP l x l.length t == 36) && ((List.range C.toNat).all fun c => sumsP l x l.length (5 + c) == 72)
/-- A list is a truth within an error. -/
def truthB (l : List Ang) (T C err : Int) (xs : List Int) : Bool := decide (askedL l T C err = 0) && (decide (xs.length = l.length) && (roomsB l err (fnOf xs) l.length && sumsB l T C (fnOf xs)))
theorem sumsP_bd (l : List Ang) (x : Int → Int) (v : Int) : ∀ k : Nat, (∀ i : Nat, i < k → 0 ≤ x i ∧ x i ≤ 40) → 0 ≤ sumsP l x k v ∧ sumsP l x k v ≤ 80 * (k : Int) := by
  intro k
  induction k with
  | zero => intro _; simp [sumsP, sumR]
  | succ k ih =>
    intro h
    have h1 := ih (fun i hi => h i (by omega))
    have h2 := h k (by omega)
    have e : sumsP l x (k + 1) v = sumsP l x k v + ((if frL l k = v then x k else 0) + (if toL l k = v then x k else 0)) := rfl
    rw [e]
    split <;> split <;> omega
theorem sumsP_step (l : List Ang) (x : Int → Int) (k : Nat) (p q X : Int) (hp : frL l k = p) (hq : toL l k = q) (hX : x k = X) (i : Int) : sumsP l x (k + 1) i = updG (updG (sumsP l x k) p (sumsP l x k p + X)) q (updG (sumsP l x k) p (sumsP l x k p + X) q + X) i := by
  have e : sumsP l x (k + 1) i = sumsP l x k i + ((if frL l k = i then x k else 0) + (if toL l k = i then x k else 0)) := rfl
  rw [e, hp, hq, hX]
  unfold updG
  by_cases e1 : i = q
  · subst e1
    by_cases e2 : i = p
    · subst e2; simp; omega
    · rw [if_neg (fun h => e2 h.symm), if_pos rfl, if_pos rfl, if_neg e2]; omega
  · rw [if_neg e1, if_neg (fun h : q = i => e1 h.symm)]
    by_cases e2 : i = p
    · subst e2; simp
    · rw [if_neg e2, if_neg (fun h => e2 h.symm)]; omega
def PRel (l : List Ang) (err : Int) (n : Nat) (x : Int → Int) (w : World) (Bn Bs : Nat) (net : Obj) (i : Value) (wr : World) : Prop :=
  ∃ k : Nat, k ≤ n ∧ i = .int .i64 k ∧ roomsB l err x k = true ∧ GiveAt wr Bs 107 (sumsP l x k) ∧ wr.heap[Bn]? = some net ∧ Below w.heap.size w wr
theorem roomsB_succ (l : List Ang) (err : Int) (x : Int → Int) (k : Nat) : roomsB l err x (k + 1) = (roomsB l err x k && inB (x k) (roomLo l err [] k) (roomHi l err [] k)) := by
  unfold roomsB
  rw [List.range_succ, List.all_append]
  simp
theorem roomsB_false {l : List Ang} {err : Int} {x : Int → Int} {k n : Nat} (hk : k < n) (h : inB (x k) (roomLo l err [] k) (roomHi l err [] k) = false) : roomsB l err x n = false := by
  unfold roomsB
  rw [List.all_eq_false]
  exact ⟨k, List.mem_range.2 hk, by rw [h]; simp⟩
theorem sumsB_t {l : List Ang} {T C : Int} {x : Int → Int} {n t : Nat} (hn : l.length = n) (ht : (t : Int) < T) (h : sumsP l x n t ≠ 36) : sumsB l T C x = false := by
  subst hn
  unfold sumsB
  rw [Bool.and_eq_false_iff]
  left
  rw [List.all_eq_false]
  exact ⟨t, List.mem_range.2 (by omega), by simpa using h⟩
theorem sumsB_c {l : List Ang} {T C : Int} {x : Int → Int} {n c : Nat} (hn : l.length = n) (hc : (c : Int) < C) (h : sumsP l x n (5 + c) ≠ 72) : sumsB l T C x = false := by
  subst hn
  unfold sumsB
  rw [Bool.and_eq_false_iff]
  right
  rw [List.all_eq_false]
  exact ⟨c, List.mem_range.2 (by omega), by simpa using h⟩
theorem sumsB_all {l : List Ang} {T C : Int} {x : Int → Int} {n : Nat} (hn : l.length = n) (h1 : ∀ t : Nat, (t : Int) < T → sumsP l x n t = 36) (h2 : ∀ c : Nat, (c : Int) < C → sumsP l x n (5 + c) = 72) : sumsB l T C x = true := by
  subst hn
  unfold sumsB
  rw [Bool.and_eq_true]
  refine ⟨List.all_eq_true.2 fun t ht => ?_, List.all_eq_true.2 fun c hc => ?_⟩
  · rw [h1 t (by have := List.mem_range.1 ht; omega)]; rfl
  · rw [h2 c (by have := List.mem_range.1 hc; omega)]; rfl
set_option maxRecDepth 100000 in
set_option maxHeartbeats 4000000 in
theorem proveTruth_any (A : Option Addr) (n cap : Nat) (T C err : Int) (l : List Ang) (tv : Value) (xs : List Int) (w : World) (hn : n ≤ 1000000) (hl : l.length = n) (hA : AngsAt w A l) (ht : IntsAt w tv xs) :
    Calls Try.prog 21 #[.agg #[.slice A n cap, .int .i64 T, .int .i64 C], .int .i64 err, tv] w fun e w' => e = .returned (.bool (truthB l T C err xs)) ∧ Below w.heap.size w w' := by
  obtain ⟨At, tcap, rfl, htx⟩ := ht
  have hB : Below w.heap.size w (w.alloc (.cells #[.slice A n cap, .int .i64 T, .int .i64 C] 33)) := (Below.refl _ _).alloc (Nat.le_refl _) _
  have hck := Lib.hid (asked_any A n cap T C err l _ hn hl (hA.keep hB (Nat.le_refl _)))
  have HB := Lib.hid hB
  have HTX := Lib.hid htx
  by_cases hf : askedL l T C err = 0
  · obtain ⟨hok, he0, he1⟩ := askedL_ok hf
    obtain ⟨b, o, rfl⟩ := hA.some hok.pos
    have n0 := Lib.hid (Go.heap_alloc_new w (.cells #[.slice (some ⟨b, o, none⟩) n cap, .int .i64 T, .int .i64 C] 33))
    have hn12 : n ≤ 12 := by rw [← hl]; exact hok.len
    rw [hf] at hck
    by_cases hlen : xs.length = n
    · have htb : truthB l T C err xs = (roomsB l err (fnOf xs) n && sumsB l T C (fnOf xs)) := by unfold truthB; rw [hf, hl, hlen]; simp
      have HTB := Lib.hid htb
      have HA := Lib.hid hA
      have HO := Lib.hid hok
      have HL := Lib.hid hl
      have hlb : ((n : Int) != (n : Int)) = false := by simp
      have HLEN := Lib.hid hlen
      rw [hlen]
      clear hB hA hl hok hf htb htx hlen
      go_enter Try.func21, Try.ntmps21
      go_wp2_with fail
      refine hck.out.mono ?_
      rintro e w1 ⟨rfl, hb1⟩
      have hB1 : Below w.heap.size w w1 := HB.out.trans (hb1.mono HB.out.size)
      have n1 := (hb1.block w.heap.size (by simp)).trans n0.out
      have c0 : w1.cell? ⟨w.heap.size, 0, none⟩ = some (.slice (some ⟨b, o, none⟩) n cap) := by simp [World.cell?, n1]
      have c1 : w1.cell? ⟨w.heap.size, 1, none⟩ = some (.int .i64 T) := by simp [World.cell?, n1]
      have c2 : w1.cell? ⟨w.heap.size, 2, none⟩ = some (.int .i64 C) := by simp [World.cell?, n1]
      have lw1 : w.heap.size < w1.heap.size := World.block_lt_of_cell? w1 _ c0
      have HB1 := Lib.hid hB1
      have N1 := Lib.hid n1
      clear hb1 hB1 n1 hck n0 HB
      have hpos : 0 < n := by rw [← HL.out]; exact HO.out.pos
      obtain ⟨b2, o2, rfl, htc⟩ := HTX.out.resolve_left (fun h => by have := HLEN.out; rw [h] at this; simp at this; omega)
      have hTB : ∀ X, Below w.heap.size w X → ∀ j : Nat, j < n → X.cell? ⟨b2, o2 + j, none⟩ = some (.int .i64 (fnOf xs j)) := fun X hX j hj => by
        have hj' : j < xs.length := by rw [HLEN.out]; exact hj
        have := htc j hj'
        rw [fnOf_at hj']
        exact (hX.cell (p := ⟨b2, o2 + j, none⟩) (World.block_lt_of_cell? w _ this)).trans this
      have HTC := Lib.hid hTB
      clear htc hTB
      have hs0 : GiveAt (w1.alloc (.cells zeros13 107)) w1.heap.size 107 (fun _ => 0) := ⟨zeros13, heap_new_at _ _ _ rfl, rfl, fun i hi => zeros13_at i hi⟩
      have hB2 : Below w.heap.size w (w1.alloc (.cells zeros13 107)) := HB1.out.alloc HB1.out.size _
      have n2 : (w1.alloc (.cells zeros13 107)).heap[w.heap.size]? = some (.cells #[.slice (some ⟨b, o, none⟩) n cap, .int .i64 T, .int .i64 C] 33 (0, 0)) := (Below.heap_alloc _ _ _ lw1).trans N1.out
      have hr := rooms_any b o n cap T C l err (.slice none 0 0) [] (w1.alloc (.cells zeros13 107)) HL.out HO.out (HA.out.keep hB2 (Nat.le_refl _)) he0 he1 (IntsAt.nil _) (by simp)
      have HS0 := Lib.hid hs0
      have HB2 := Lib.hid hB2
      have N2 := Lib.hid n2
      have HR := Lib.hid hr
      clear hs0 hB2 n2 hr
      unfold zeros13 at HS0 HB2 N2 HR
      go_wp2_with fail
      refine HR.out.mono ?_
      rintro e w2 ⟨rs, rfl, hrs, hb2⟩
      have hS2 := HS0.out.of_block (hb2.block _ (by simp))
      have hN2 := (hb2.block _ (by simp; omega)).trans N2.out
      have hB3 : Below w.heap.size w w2 := HB2.out.trans (hb2.mono HB2.out.size)
      obtain ⟨Bs, hBs⟩ : ∃ Bs, w1.heap.size = Bs := ⟨_, rfl⟩
      obtain ⟨Bn, hBn⟩ : ∃ Bn, w.heap.size = Bn := ⟨_, rfl⟩
      have o1 : w.heap.size ≤ Bn := by omega
      have o2' : Bn < Bs := by omega
      rw [hBs] at hS2 ⊢
      rw [hBn] at hN2 ⊢
      have HS2 := Lib.hid hS2
      have HN2 := Lib.hid hN2
      have HB3 := Lib.hid hB3
      have HRS := Lib.hid hrs
      clear hS2 hN2 hB3 hrs hb2 HS0 HB2 N2 HR hBs hBn c0 c1 c2 lw1 N1 HB1
      go_wp2_with fail
      go_loopw [28] (PRel l err n (fnOf xs) w Bn Bs (.cells #[.slice (some ⟨b, o, none⟩) n cap, .int .i64 T, .int .i64 C] 33 (0, 0))) (fun i _ => 12 - (intOf i).toNat)
      case atStart => exact ⟨0, by omega, rfl, rfl, HS2.out.congr (fun i _ => rfl), HN2.out, HB3.out⟩
      case round =>
        clear HS2 HN2 HB3
        obtain ⟨k, hk, rfl, hro, hS, hN, hBe⟩ := hrel
        by_cases hlt : k < n
        · have hlt' : decide ((k : Int) < 12) = true := by simp; omega
          have hge' : decide ((n : Int) ≤ (k : Int)) = false := by simp; omega
          have hix := run_index_rooms HRS.out (k := k) (by omega)
          have hlk : k < l.length := by rw [HL.out]; exact hlt
          have HRO := Lib.hid hro
          have HS := Lib.hid hS
          have HN := Lib.hid hN
          have HBe := Lib.hid hBe
          clear hro hS hN hBe
          obtain ⟨L, hL⟩ : ∃ L, roomLo l err [] k = L := ⟨_, rfl⟩
          obtain ⟨H, hH⟩ : ∃ H, roomHi l err [] k = H := ⟨_, rfl⟩
          obtain ⟨X, hX⟩ : ∃ X, fnOf xs k = X := ⟨_, rfl⟩
          rw [hL, hH] at hix
          have HL2 := Lib.hid hL
          have HH2 := Lib.hid hH
          have HX2 := Lib.hid hX
          clear hL hH hX
          go_wp2_with fail
          have hb3 : Below wr.heap.size wr (wr.alloc (.cells #[.int .i64 L, .int .i64 H] 58)) := (Below.refl _ _).alloc (Nat.le_refl _) _
          have hnew := Go.heap_alloc_new wr (.cells #[.int .i64 L, .int .i64 H] 58)
          generalize wr.alloc (.cells #[.int .i64 L, .int .i64 H] 58) = w3 at hb3 hnew ⊢
          obtain ⟨Br, hBr⟩ : ∃ Br, wr.heap.size = Br := ⟨_, rfl⟩
          have r0 : w3.cell? ⟨wr.heap.size, 0, none⟩ = some (.int .i64 L) := by simp [World.cell?, hnew]
          have r1 : w3.cell? ⟨wr.heap.size, 1, none⟩ = some (.int .i64 H) := by simp [World.cell?, hnew]
          have hS3 := HS.out.of_block (hb3.block Bs HS.out.lt)
          have hN3 := (hb3.block Bn (Array.getElem?_eq_some_iff.1 HN.out).1).trans HN.out
          have hB3 : Below w.heap.size w w3 := HBe.out.trans (hb3.mono HBe.out.size)
          have t0 := HTC.out w3 hB3 k hlt
          rw [HX2.out] at t0
          rw [hBr] at r0 r1 ⊢
          have HS3 := Lib.hid hS3
          have HN3 := Lib.hid hN3
          have HB3 := Lib.hid hB3
          have i1 : (0 : Int) ≤ (k : Int) := by omega
          have i2 : (k : Int) < (n : Int) := by omega
          clear hS3 hN3 hB3 hb3 hnew HS HN HBe hBr hix
          cases hin : inB X L H with
          | false =>
            have hrf : roomsB l err (fnOf xs) n = false := roomsB_false hlt (by rw [HL2.out, HH2.out, HX2.out]; exact hin)
            have HRF := Lib.hid hrf
            clear hrf
            go_region_held3 (fun Y => Y.cell? ⟨Br, 0, none⟩ = some (.int .i64 L) ∧ Y.cell? ⟨Br, 1, none⟩ = some (.int .i64 H) ∧ Y.cell? ⟨b2, o2 + k, none⟩ = some (.int .i64 X)) (go_keep) (first | (go_at_call 68; refine (within_b X L H _).mono ?_; rintro e w' ⟨rfl, rfl⟩))
            go_wp2_with fail
            go_ret
            exact ⟨by rw [HTB.out, HRF.out]; rfl, HB3.out.drew⟩
          | true =>
            have hin2 := inB_true.1 hin
            have hrs1 : roomsB l err (fnOf xs) (k + 1) = true := by rw [roomsB_succ, HRO.out, HL2.out, HH2.out, HX2.out, hin]; rfl
            have hrk := rooms_ok HO.out he0 []
            have hx0 : 0 ≤ X ∧ X ≤ 40 := by
              have a1 := hrk.lo0 k hlk
              have a2 := hrk.hi1 k hlk
              rw [HL2.out] at a1
              rw [HH2.out] at a2
              omega
            have HRS1 := Lib.hid hrs1
            go_region_held3 (fun Y => Y.cell? ⟨Br, 0, none⟩ = some (.int .i64 L) ∧ Y.cell? ⟨Br, 1, none⟩ = some (.int .i64 H) ∧ Y.cell? ⟨b2, o2 + k, none⟩ = some (.int .i64 X)) (go_keep) (first | (go_at_call 68; refine (within_b X L H _).mono ?_; rintro e w' ⟨rfl, rfl⟩))
            have hS4 := HS3.out.of_block (W' := w3.drew) rfl
            have hN4 : w3.drew.heap[Bn]? = some (.cells #[.slice (some ⟨b, o, none⟩) n cap, .int .i64 T, .int .i64 C] 33 (0, 0)) := HN3.out
            have hB4 : Below w.heap.size w w3.drew := HB3.out.drew
            clear hrs1 hin2 hin r0 r1 t0 HS3 HN3 HB3
            generalize w3.drew = w4 at hS4 hN4 hB4 ⊢
            have hAw := HA.out.keep hB4 (Nat.le_refl _)
            obtain ⟨b', o', hAe, hAs⟩ := hAw.resolve_left (fun h => by rw [h] at hlk; simp at hlk)
            obtain ⟨rfl, rfl⟩ : b = b' ∧ o = o' := by simpa using hAe
            have hak := hAs k hlk
            have han := HO.out.ang l[k] (List.getElem_mem hlk)
            have ht1 := HO.out.t1
            have hc1 := HO.out.c1
            have harc := arc_any b o n cap T C k l[k] w4 hlt (by omega) hak (by omega) (by omega) (by omega) (by omega)
            rw [← frL_at hlk, ← toL_at hlk] at harc
            have hfr := HO.out.fr hlk
            have hto := HO.out.to hlk
            obtain ⟨p, hp⟩ : ∃ p : Nat, frL l k = p := ⟨(frL l k).toNat, by omega⟩
            obtain ⟨q, hq⟩ : ∃ q : Nat, toL l k = q := ⟨(toL l k).toNat, by omega⟩
            rw [hp, hq] at harc
            have hp10 : p ≤ 10 := by omega
            have hq10 : q ≤ 10 := by omega
            have HP := Lib.hid hp
            have HQ := Lib.hid hq
            have HARC := Lib.hid harc
            have c0 : w4.cell? ⟨Bn, 0, none⟩ = some (.slice (some ⟨b, o, none⟩) n cap) := by simp [World.cell?, hN4]
            have c1 : w4.cell? ⟨Bn, 1, none⟩ = some (.int .i64 T) := by simp [World.cell?, hN4]
            have c2 : w4.cell? ⟨Bn, 2, none⟩ = some (.int .i64 C) := by simp [World.cell?, hN4]
            have HS4 := Lib.hid hS4
            have HN4 := Lib.hid hN4
            have HB4 := Lib.hid hB4
            have hbd := sumsP_bd l (fnOf xs)
            clear hfr hto hp hq harc hS4 hN4 hB4 hak han hAs hAe hAw
            have hxall : ∀ i : Nat, i < k → 0 ≤ fnOf xs i ∧ fnOf xs i ≤ 40 := fun i hi => by
              have h1 : inB (fnOf xs i) (roomLo l err [] i) (roomHi l err [] i) = true := by
                have := HRO.out
                unfold roomsB at this
                exact List.all_eq_true.1 this i (List.mem_range.2 hi)
              have h2 := inB_true.1 h1
              have a1 := hrk.lo0 i (by omega)
              have a2 := hrk.hi1 i (by omega)
              omega
            have hbp := hbd p k hxall
            have hbq := hbd q k hxall
            clear hbd hxall hrk
            go_wp2_with (go_at_call 69; refine HARC.out.mono ?_; rintro e w5 ⟨rfl, hb5⟩)
            have hb6 : Below w4.heap.size w4 (w5.alloc (.cells #[.int .i64 p, .int .i64 q, .int .i64 k] 112)) := hb5.alloc hb5.size _
            have hblk := Go.heap_alloc_new w5 (.cells #[.int .i64 p, .int .i64 q, .int .i64 k] 112)
            have lS := HS4.out.lt
            have hs5 := hb5.size
            generalize w5.alloc (.cells #[.int .i64 p, .int .i64 q, .int .i64 k] 112) = w6 at hb6 hblk ⊢
            obtain ⟨Ba, hBa⟩ : ∃ Ba, w5.heap.size = Ba := ⟨_, rfl⟩
            rw [hBa] at hblk hs5 ⊢
            have hne : Ba ≠ Bs := by omega
            have hS6 := HS4.out.of_block (hb6.block Bs lS)
            have hN6 := (hb6.block Bn (Array.getElem?_eq_some_iff.1 HN4.out).1).trans HN4.out
            have hB6 : Below w.heap.size w w6 := HB4.out.trans (hb6.mono HB4.out.size)
            have t0 := HTC.out w6 hB6 k hlt
            rw [HX2.out] at t0
            have hb2l : b2 < w.heap.size := by
              have hj' : k < xs.length := by rw [HLEN.out]; exact hlt
              have := HTC.out w (Below.refl _ _) k hlt
              exact World.block_lt_of_cell? w _ this
            have HBLK := Lib.hid hblk
            have HS6 := Lib.hid hS6
            have HN6 := Lib.hid hN6
            have HB6 := Lib.hid hB6
            clear hblk hS6 hN6 hB6 hb6 hb5 hBa HS4 HN4 HB4 c0 c1 c2 hs5 lS HARC
            have a0 : w6.cell? ⟨Ba, 0, none⟩ = some (.int .i64 p) := by simp [World.cell?, HBLK.out]
            have a1 : w6.cell? ⟨Ba, 1, none⟩ = some (.int .i64 q) := by simp [World.cell?, HBLK.out]
            have g0 := HS6.out.cell (i := p) (by omega)
            have z0 := HS6.out.frozen p
            obtain ⟨G, hG⟩ : ∃ G, sumsP l (fnOf xs) k p = G := ⟨_, rfl⟩
            rw [hG] at g0 hbp
            have HG := Lib.hid hG
            have i3 : (0 : Int) ≤ (p : Int) := by omega
            have i4 : (p : Int) < 13 := by omega
            have wp1 : IntKind.i64.wrap (G + X) = G + X := IntWalk.i64_in _ (by omega)
            clear hG
            go_region
            have hs7 : ∀ j, j ≠ Bs → (w6.setCell ⟨Bs, p, none⟩ (.int .i64 (G + X))).drew.heap[j]? = w6.heap[j]? := fun j hj => Below.heap_setCell _ _ _ _ hj
            have hS7 := (HS6.out.set (v := p) (G + X) (by omega)).of_block (W' := (w6.setCell ⟨Bs, p, none⟩ (.int .i64 (G + X))).drew) rfl
            have hN7 := (hs7 Bn (by omega)).trans HN6.out
            have hK7 := (hs7 Ba hne).trans HBLK.out
            have hB7 : Below w.heap.size w (w6.setCell ⟨Bs, p, none⟩ (.int .i64 (G + X))).drew := (HB6.out.setCell (by simp; omega) _).drew
            clear hs7
            generalize (w6.setCell ⟨Bs, p, none⟩ (.int .i64 (G + X))).drew = w7 at hS7 hN7 hK7 hB7 ⊢
            obtain ⟨g3, hg3⟩ : ∃ g3, updG (sumsP l (fnOf xs) k) p (G + X) = g3 := ⟨_, rfl⟩
            rw [hg3] at hS7
            have t1 := HTC.out w7 hB7 k hlt
            rw [HX2.out] at t1
            have e0 : w7.cell? ⟨Ba, 0, none⟩ = some (.int .i64 p) := by simp [World.cell?, hK7]
            have e1 : w7.cell? ⟨Ba, 1, none⟩ = some (.int .i64 q) := by simp [World.cell?, hK7]
            have g1 := hS7.cell (i := q) (by omega)
            have z1 := hS7.frozen q
            have hbq2 : 0 ≤ g3 q ∧ g3 q ≤ 2000 := by rw [← hg3]; unfold updG; split <;> omega
            have HG3 := Lib.hid hg3
            have HS7 := Lib.hid hS7
            have HN7 := Lib.hid hN7
            have HB7 := Lib.hid hB7
            clear hg3 hS7 hN7 hK7 hB7 a0 a1 g0 z0 t0 wp1 hbp hbq HS6 HN6 HB6 HBLK
            have i5 : (0 : Int) ≤ (q : Int) := by omega
            have i6 : (q : Int) < 13 := by omega
            have wp1 : IntKind.i64.wrap (g3 q + X) = g3 q + X := IntWalk.i64_in _ (by omega)
            go_wp2_with fail
            go_region
            have hs8 : ∀ j, j ≠ Bs → (w7.setCell ⟨Bs, q, none⟩ (.int .i64 (g3 q + X))).drew.heap[j]? = w7.heap[j]? := fun j hj => Below.heap_setCell _ _ _ _ hj
            have hS8 := (HS7.out.set (v := q) (g3 q + X) (by omega)).of_block (W' := (w7.setCell ⟨Bs, q, none⟩ (.int .i64 (g3 q + X))).drew) rfl
            have hN8 := (hs8 Bn (by omega)).trans HN7.out
            have hB8 : Below w.heap.size w (w7.setCell ⟨Bs, q, none⟩ (.int .i64 (g3 q + X))).drew := (HB7.out.setCell (by simp; omega) _).drew
            clear hs8
            generalize (w7.setCell ⟨Bs, q, none⟩ (.int .i64 (g3 q + X))).drew = w8 at hS8 hN8 hB8 ⊢
            have hS9 : GiveAt w8 Bs 107 (sumsP l (fnOf xs) (k + 1)) := hS8.congr (fun i _ => by rw [sumsP_step l (fnOf xs) k p q X HP.out HQ.out HX2.out, HG.out, HG3.out])
            have HS9 := Lib.hid hS9
            have HN8 := Lib.hid hN8
            have HB8 := Lib.hid hB8
            clear hS8 hS9 hN8 hB8 t1 e0 e1 g1 z1 wp1 HS7 HN7 HB7
            go_wp2_with fail
            go_roundw
            case rel => exact ⟨k + 1, by omega, by go_num, HRS1.out, HS9.out, HN8.out, HB8.out⟩
            case measure => simp [intOf]; omega
        · obtain rfl : k = n := by omega
          have ht0 := HO.out.t0
          have ht1 := HO.out.t1
          have hc0 := HO.out.c0
          have hc1 := HO.out.c1
          have HRO := Lib.hid hro
          clear hro
          by_cases h12 : k < 12
          · have hlt' : decide ((k : Int) < 12) = true := by simp; omega
            have hge' : decide ((k : Int) ≤ (k : Int)) = true := by simp
            have hix := run_index_rooms HRS.out (k := k) (by omega)
            obtain ⟨L, hL⟩ : ∃ L, roomLo l err [] k = L := ⟨_, rfl⟩
            obtain ⟨H, hH⟩ : ∃ H, roomHi l err [] k = H := ⟨_, rfl⟩
            rw [hL, hH] at hix
            clear hL hH
            obtain ⟨wz, hwz⟩ : ∃ wz, wr.alloc (.cells #[.int .i64 L, .int .i64 H] 58) = wz := ⟨_, rfl⟩
            have hbz : Below wr.heap.size wr wz := by rw [← hwz]; exact (Below.refl _ _).alloc (Nat.le_refl _) _
            have hSz := hS.of_block (hbz.block Bs hS.lt)
            have hNz := (hbz.block Bn (Array.getElem?_eq_some_iff.1 hN).1).trans hN
            have hBz : Below w.heap.size w wz := hBe.trans (hbz.mono hBe.size)
            have r1 : (wr.alloc (.cells #[.int .i64 L, .int .i64 H] 58)).cell? ⟨Bn, 1, none⟩ = some (.int .i64 T) := by rw [hwz]; simp [World.cell?, hNz]
            have lBn : Bn < wr.heap.size := (Array.getElem?_eq_some_iff.1 hN).1
            have r2 : wr.cell? ⟨Bn, 1, none⟩ = some (.int .i64 T) := by simp [World.cell?, hN]
            have HWZ := Lib.hid hwz
            clear hS hN hBe hbz hwz
            go_wp2_with fail
            rw [HWZ.out]
            clear r1 r2 lBn

            have q1 : wz.cell? ⟨Bn, 1, none⟩ = some (.int .i64 T) := by simp [World.cell?, hNz]
            have q2 : wz.cell? ⟨Bn, 2, none⟩ = some (.int .i64 C) := by simp [World.cell?, hNz]
            have HSz := Lib.hid hSz
            have HBz := Lib.hid hBz
            clear hNz hSz hBz
            go_wp2_with fail
            go_loop [72] (fun i => ∃ t : Nat, (t : Int) ≤ T ∧ i = .int .i64 t ∧ ∀ j : Nat, j < t → sumsP l (fnOf xs) k j = 36) (fun i => T.toNat - (intOf i).toNat)
            case atStart => exact ⟨0, by omega, rfl, fun j h => by omega⟩
            case round =>
              obtain ⟨t, ht, rfl, hall⟩ := hrel
              have HALL := Lib.hid hall
              clear hall
              by_cases htT : (t : Int) < T
              · have htT' : decide ((t : Int) < T) = true := by simpa using htT
                have g0 := HSz.out.cell (i := t) (by omega)
                obtain ⟨G, hG⟩ : ∃ G, sumsP l (fnOf xs) k t = G := ⟨_, rfl⟩
                rw [hG] at g0
                have HG := Lib.hid hG
                clear hG
                have j0 : (t : Int) < 13 := by omega
                by_cases hg : G = 36
                · subst hg
                  have hgb : ((36 : Int) != 36) = false := by simp
                  go_wp2_with fail
                  go_round
                  case rel => exact ⟨t + 1, by omega, by go_num, fun j hj => by
                    by_cases e : j = t
                    · rw [e]; exact HG.out
                    · exact HALL.out j (by omega)⟩
                  case measure => simp [intOf]; omega
                · have hgb : (G != 36) = true := by simpa using hg
                  have hsf : sumsB l T C (fnOf xs) = false := sumsB_t (by rw [HL.out]) (t := t) (by omega) (by rw [HG.out]; exact hg)
                  have HSF := Lib.hid hsf
                  clear hsf
                  go_wp2_with fail
                  go_ret
                  exact ⟨by rw [HTB.out, HSF.out, Bool.and_false]; rfl, HBz.out⟩
              · have htT' : decide ((t : Int) < T) = false := by simpa using htT
                go_wp2_with fail
                go_loop [82] (fun i => ∃ c : Nat, (c : Int) ≤ C ∧ i = .int .i64 c ∧ ∀ j : Nat, j < c → sumsP l (fnOf xs) k (5 + j) = 72) (fun i => C.toNat - (intOf i).toNat)
                case atStart => exact ⟨0, by omega, rfl, fun j h => by omega⟩
                case round =>
                  obtain ⟨c, hc, rfl, hall⟩ := hrel
                  have HALL2 := Lib.hid hall
                  clear hall
                  by_cases hcC : (c : Int) < C
                  · have hcC' : decide ((c : Int) < C) = true := by simpa using hcC
                    have g0 := HSz.out.cell (i := 5 + c) (by omega)
                    rw [show (((5 + c : Nat)) : Int) = 5 + (c : Int) by omega] at g0
                    obtain ⟨G, hG⟩ : ∃ G, sumsP l (fnOf xs) k (5 + c) = G := ⟨_, rfl⟩
                    rw [hG] at g0
                    have HG := Lib.hid hG
                    clear hG
                    have j0 : (c : Int) < 8 := by omega
                    by_cases hg : G = 72
                    · subst hg
                      have hgb : ((72 : Int) != 72) = false := by simp
                      go_wp2_with fail
                      go_round
                      case rel => exact ⟨c + 1, by omega, by go_num, fun j hj => by
                        by_cases e : j = c
                        · rw [e]; exact HG.out
                        · exact HALL2.out j (by omega)⟩
                      case measure => simp [intOf]; omega
                    · have hgb : (G != 72) = true := by simpa using hg
                      have hsf : sumsB l T C (fnOf xs) = false := sumsB_c (by rw [HL.out]) (c := c) (by omega) (by rw [HG.out]; exact hg)
                      have HSF := Lib.hid hsf
                      clear hsf
                      go_wp2_with fail
                      go_ret
                      exact ⟨by rw [HTB.out, HSF.out, Bool.and_false]; rfl, HBz.out⟩
                  · have hcC' : decide ((c : Int) < C) = false := by simpa using hcC
                    have hst : sumsB l T C (fnOf xs) = true := sumsB_all (by rw [HL.out]) (fun j hj => HALL.out j (by omega)) (fun j hj => HALL2.out j (by omega))
                    have HST := Lib.hid hst
                    clear hst
                    go_wp2_with fail
                    go_ret
                    exact ⟨by rw [HTB.out, HST.out, HRO.out]; rfl, HBz.out⟩
          · have hlt' : decide ((k : Int) < 12) = false := by simp; omega
            obtain ⟨wz, rfl⟩ : ∃ wz : World, wz = wr := ⟨_, rfl⟩
            have hSz := hS
            have hNz := hN
            have hBz := hBe
            have r2 : wz.cell? ⟨Bn, 1, none⟩ = some (.int .i64 T) := by simp [World.cell?, hN]
            clear hS hN hBe
            go_wp2_with fail
            clear r2

            have q1 : wz.cell? ⟨Bn, 1, none⟩ = some (.int .i64 T) := by simp [World.cell?, hNz]
            have q2 : wz.cell? ⟨Bn, 2, none⟩ = some (.int .i64 C) := by simp [World.cell?, hNz]
            have HSz := Lib.hid hSz
            have HBz := Lib.hid hBz
            clear hNz hSz hBz
            go_wp2_with fail
            go_loop [72] (fun i => ∃ t : Nat, (t : Int) ≤ T ∧ i = .int .i64 t ∧ ∀ j : Nat, j < t → sumsP l (fnOf xs) k j = 36) (fun i => T.toNat - (intOf i).toNat)
            case atStart => exact ⟨0, by omega, rfl, fun j h => by omega⟩
            case round =>
              obtain ⟨t, ht, rfl, hall⟩ := hrel
              have HALL := Lib.hid hall
              clear hall
              by_cases htT : (t : Int) < T
              · have htT' : decide ((t : Int) < T) = true := by simpa using htT
                have g0 := HSz.out.cell (i := t) (by omega)
                obtain ⟨G, hG⟩ : ∃ G, sumsP l (fnOf xs) k t = G := ⟨_, rfl⟩
                rw [hG] at g0
                have HG := Lib.hid hG
                clear hG
                have j0 : (t : Int) < 13 := by omega
                by_cases hg : G = 36
                · subst hg
                  have hgb : ((36 : Int) != 36) = false := by simp
                  go_wp2_with fail
                  go_round
                  case rel => exact ⟨t + 1, by omega, by go_num, fun j hj => by
                    by_cases e : j = t
                    · rw [e]; exact HG.out
                    · exact HALL.out j (by omega)⟩
                  case measure => simp [intOf]; omega
                · have hgb : (G != 36) = true := by simpa using hg
                  have hsf : sumsB l T C (fnOf xs) = false := sumsB_t (by rw [HL.out]) (t := t) (by omega) (by rw [HG.out]; exact hg)
                  have HSF := Lib.hid hsf
                  clear hsf
                  go_wp2_with fail
                  go_ret
                  exact ⟨by rw [HTB.out, HSF.out, Bool.and_false]; rfl, HBz.out⟩
              · have htT' : decide ((t : Int) < T) = false := by simpa using htT
                go_wp2_with fail
                go_loop [82] (fun i => ∃ c : Nat, (c : Int) ≤ C ∧ i = .int .i64 c ∧ ∀ j : Nat, j < c → sumsP l (fnOf xs) k (5 + j) = 72) (fun i => C.toNat - (intOf i).toNat)
                case atStart => exact ⟨0, by omega, rfl, fun j h => by omega⟩
                case round =>
                  obtain ⟨c, hc, rfl, hall⟩ := hrel
                  have HALL2 := Lib.hid hall
                  clear hall
                  by_cases hcC : (c : Int) < C
                  · have hcC' : decide ((c : Int) < C) = true := by simpa using hcC
                    have g0 := HSz.out.cell (i := 5 + c) (by omega)
                    rw [show (((5 + c : Nat)) : Int) = 5 + (c : Int) by omega] at g0
                    obtain ⟨G, hG⟩ : ∃ G, sumsP l (fnOf xs) k (5 + c) = G := ⟨_, rfl⟩
                    rw [hG] at g0
                    have HG := Lib.hid hG
                    clear hG
                    have j0 : (c : Int) < 8 := by omega
                    by_cases hg : G = 72
                    · subst hg
                      have hgb : ((72 : Int) != 72) = false := by simp
                      go_wp2_with fail
                      go_round
                      case rel => exact ⟨c + 1, by omega, by go_num, fun j hj => by
                        by_cases e : j = c
                        · rw [e]; exact HG.out
                        · exact HALL2.out j (by omega)⟩
                      case measure => simp [intOf]; omega
                    · have hgb : (G != 72) = true := by simpa using hg
                      have hsf : sumsB l T C (fnOf xs) = false := sumsB_c (by rw [HL.out]) (c := c) (by omega) (by rw [HG.out]; exact hg)
                      have HSF := Lib.hid hsf
                      clear hsf
                      go_wp2_with fail
                      go_ret
                      exact ⟨by rw [HTB.out, HSF.out, Bool.and_false]; rfl, HBz.out⟩
                  · have hcC' : decide ((c : Int) < C) = false := by simpa using hcC
                    have hst : sumsB l T C (fnOf xs) = true := sumsB_all (by rw [HL.out]) (fun j hj => HALL.out j (by omega)) (fun j hj => HALL2.out j (by omega))
                    have HST := Lib.hid hst
                    clear hst
                    go_wp2_with fail
                    go_ret
                    exact ⟨by rw [HTB.out, HST.out, HRO.out]; rfl, HBz.out⟩
    · have htb : truthB l T C err xs = false := by unfold truthB; rw [hf, hl]; simp [hlen]
      have HTB := Lib.hid htb
      have hlb : ((xs.length : Int) != (n : Int)) = true := by simp; omega
      clear hB hA hl hok hf htb htx hlen
      go_enter Try.func21, Try.ntmps21
      go_wp2_with fail
      refine hck.out.mono ?_
      rintro e w1 ⟨rfl, hb1⟩
      have hB1 : Below w.heap.size w w1 := HB.out.trans (hb1.mono HB.out.size)
      have n1 := (hb1.block w.heap.size (by simp)).trans n0.out
      have c0 : w1.cell? ⟨w.heap.size, 0, none⟩ = some (.slice (some ⟨b, o, none⟩) n cap) := by simp [World.cell?, n1]
      have HB1 := Lib.hid hB1
      clear hb1 hB1 n1 hck n0 HB
      go_wp2_with fail
      go_ret
      exact ⟨by rw [HTB.out]; rfl, HB1.out⟩
  · have htb : truthB l T C err xs = false := by unfold truthB; simp [hf]
    have HTB := Lib.hid htb
    have hne : (askedL l T C err != 0) = true := by simpa using hf
    clear hB hA hl hf htb htx
    go_enter Try.func21, Try.ntmps21
    go_wp2_with (go_at_call 66; refine hck.out.mono ?_; rintro e w' ⟨rfl, hb1⟩)
    go_ret
    exact ⟨by rw [HTB.out]; rfl, HB.out.trans (hb1.mono HB.out.size)⟩
end
end Go.Proofs.Ytkloaeaepjoijaa
namespace Go.Proofs.Ytkloaeaepjoijaa
section
open Go.RowKit Go.WalkArith
/-- Numbers rise from 0 to less than a number. -/
def risesAt (xs : List Int) (many : Int) (i : Nat) : Bool := inB (xs.getD i 0) 0 (many - 1) && (decide (i = 0) || decide (xs.getD (i - 1) 0 < xs.getD i 0))
def risingB (xs : List Int) (many : Int) : Bool := (List.range xs.length).all (risesAt xs many)
theorem risingB_no {xs : List Int} {many : Int} {k : Nat} (hk : k < xs.length) (h : risesAt xs many k = false) : risingB xs many = false := by
  unfold risingB
  rw [List.all_eq_false]
  exact ⟨k, List.mem_range.2 hk, by rw [h]; simp⟩
theorem risingB_yes {xs : List Int} {many : Int} (h : ∀ j, j < xs.length → risesAt xs many j = true) : risingB xs many = true :=
  List.all_eq_true.2 fun j hj => h j (List.mem_range.1 hj)
end
end Go.Proofs.Ytkloaeaepjoijaa
namespace Go.Proofs.Ytkloaeaepjoijaa
section
open Go.RowKit Go.WalkArith
theorem sumR_nil {k : Nat} {f : Nat → Int} (h : ∀ i : Nat, i < k → f i = 0) : sumR k f = 0 := by
  rw [sumR_congr h, sumR_zero]
/-- What a triangle's node gives, what a circle's gives. -/
theorem give9_tri {l : List Ang} {T C : Int} (hok : NetOk l T C) (x : Int → Int) {v : Nat} (hv : v < 5) : give9 l.length T C (frL l) (toL l) x v = (if (v : Int) < T then 36 else 0) - sumsP l x l.length v := by
  unfold give9 sumsP
  have hb : base T C v = if (v : Int) < T then 36 else 0 := by
    unfold base
    by_cases h : (v : Int) < T
    · rw [if_pos ⟨by omega, h⟩, if_pos h]
    · rw [if_neg (by omega), if_neg (by omega), if_neg h]
  rw [hb]
  have : sumR l.length (fun i => (if toL l i = v then x i else 0) - (if frL l i = v then x i else 0)) = sumR l.length (fun i => - ((if frL l i = v then x i else 0) + (if toL l i = v then x i else 0))) := sumR_congr fun i hi => by
    have := hok.to hi
    rw [if_neg (show ¬ toL l i = v by omega)]
    omega
  rw [this, sumR_neg]
  omega
theorem give9_cir {l : List Ang} {T C : Int} (hok : NetOk l T C) (x : Int → Int) {v : Nat} (hv : v < 5) : give9 l.length T C (frL l) (toL l) x ((5 + v : Nat) : Int) = sumsP l x l.length (5 + v) - (if (v : Int) < C then 72 else 0) := by
  unfold give9 sumsP
  have ht1 := hok.t1
  have hb : base T C ((5 + v : Nat) : Int) = - if (v : Int) < C then 72 else 0 := by
    unfold base
    rw [if_neg (by omega)]
    by_cases h : (v : Int) < C
    · rw [if_pos (by omega), if_pos h]
    · rw [if_neg (by omega), if_neg h]; rfl
  rw [hb]
  have : sumR l.length (fun i => (if toL l i = ((5 + v : Nat) : Int) then x i else 0) - (if frL l i = ((5 + v : Nat) : Int) then x i else 0)) = sumR l.length (fun i => (if frL l i = 5 + (v : Int) then x i else 0) + (if toL l i = 5 + (v : Int) then x i else 0)) := sumR_congr fun i hi => by
    have := hok.fr hi
    rw [if_neg (show ¬ frL l i = ((5 + v : Nat) : Int) by omega), if_neg (show ¬ frL l i = 5 + (v : Int) by omega), show ((5 + v : Nat) : Int) = 5 + (v : Int) by omega]
    omega
  rw [this]
  omega
/-- No angle belongs to a node beyond the net's. -/
theorem sumsP_out {l : List Ang} {T C : Int} (hok : NetOk l T C) (x : Int → Int) {v : Nat} (hv : v < 10) (h : ¬ ((v : Int) < T ∨ (5 ≤ (v : Int) ∧ (v : Int) < 5 + C))) : sumsP l x l.length v = 0 := by
  unfold sumsP
  refine sumR_nil fun i hi => ?_
  have h1 := hok.fr hi
  have h2 := hok.to hi
  rw [if_neg (by omega), if_neg (by omega)]
  rfl
theorem truth_iff {l : List Ang} {T C err : Int} (hok : NetOk l T C) (x : Int → Int) : TruthE l T C err [] x ↔ (roomsB l err x l.length = true ∧ sumsB l T C x = true) := by
  have ht0 := hok.t0
  have ht1 := hok.t1
  have hc0 := hok.c0
  have hc1 := hok.c1
  unfold TruthE TruthN roomsB sumsB
  simp only [List.all_eq_true, List.mem_range, Bool.and_eq_true, inB_true, beq_iff_eq]
  constructor
  · rintro ⟨h1, h2⟩
    refine ⟨h1, fun t ht => ?_, fun c hc => ?_⟩
    · have := h2 t (by omega)
      rw [give9_tri hok x (by omega), if_pos (by omega)] at this
      omega
    · have := h2 (5 + c) (by omega)
      rw [give9_cir hok x (by omega), if_pos (by omega)] at this
      omega
  · rintro ⟨h1, h2, h3⟩
    refine ⟨h1, fun v hv => ?_⟩
    by_cases h5 : v < 5
    · rw [give9_tri hok x h5]
      by_cases h : (v : Int) < T
      · rw [if_pos h]; have := h2 v (by omega); omega
      · rw [if_neg h, sumsP_out hok x hv (by omega)]; rfl
    · obtain ⟨c, rfl⟩ : ∃ c, v = 5 + c := ⟨v - 5, by omega⟩
      rw [give9_cir hok x (by omega)]
      by_cases h : (c : Int) < C
      · rw [if_pos h]; have := h3 c (by omega); omega
      · have := sumsP_out hok x hv (by omega)
        rw [show ((5 + c : Nat) : Int) = 5 + (c : Int) by omega] at this
        rw [if_neg h, this]; rfl
theorem truthB_iff {l : List Ang} {T C err : Int} {xs : List Int} : truthB l T C err xs = true ↔ askedL l T C err = 0 ∧ xs.length = l.length ∧ TruthE l T C err [] (fnOf xs) := by
  unfold truthB
  simp only [Bool.and_eq_true, decide_eq_true_eq]
  constructor
  · rintro ⟨h1, h2, h3, h4⟩
    exact ⟨h1, h2, (truth_iff (askedL_ok h1).1 _).2 ⟨h3, h4⟩⟩
  · rintro ⟨h1, h2, h3⟩
    have := (truth_iff (askedL_ok h1).1 _).1 h3
    exact ⟨h1, h2, this.1, this.2⟩
theorem TruthE.congr {l : List Ang} {T C err : Int} {out : List Int} {x y : Int → Int} (h : TruthE l T C err out x) (e : ∀ i : Nat, i < l.length → y i = x i) : TruthE l T C err out y := by
  refine ⟨fun i hi => ?_, fun v hv => ?_⟩
  · rw [e i hi]; exact h.1 i hi
  · rw [← h.2 v hv]
    unfold give9
    congr 1
    exact sumR_congr fun i hi => by rw [e i hi]
theorem truthB_can {l : List Ang} {T C err : Int} {xs : List Int} (h : truthB l T C err xs = true) : canE l T C err [] = true := by
  obtain ⟨h1, _, h3⟩ := truthB_iff.1 h
  exact canB_of_truth (askedL_ok h1).1 h3
end
end Go.Proofs.Ytkloaeaepjoijaa
namespace Go.Proofs.Ytkloaeaepjoijaa
section
open Go.RowKit Go.WalkArith
set_option maxRecDepth 100000 in
set_option maxHeartbeats 2000000 in
theorem same2_any (va vb : Value) (xs ys : List Int) (w : World) (ha : IntsAt w va xs) (hb : IntsAt w vb ys) (hn : xs.length ≤ 1000000) :
    Calls Try.prog 59 #[va, vb] w fun e w' => e = .returned (.bool (decide (xs = ys))) ∧ Below w.heap.size w w' := by
  obtain ⟨A, cap, rfl, hx⟩ := ha
  obtain ⟨B, cap2, rfl, hy⟩ := hb
  have HX := Lib.hid hx
  have HY := Lib.hid hy
  clear hx hy
  by_cases hl : xs.length = ys.length
  · have hne : ((xs.length : Int) != (ys.length : Int)) = false := by simp [hl]
    have HLL := Lib.hid hl
    rw [← hl]
    clear hl
    go_enter Try.func59, Try.ntmps59
    go_wp2_with fail
    go_loopw [5] (fun i wr => ∃ k : Nat, k ≤ xs.length ∧ i = .int .i64 k ∧ (∀ j, j < k → xs.getD j 0 = ys.getD j 0) ∧ Below w.heap.size w wr) (fun i _ => xs.length - (intOf i).toNat)
    case atStart => exact ⟨0, by omega, rfl, fun j h => by omega, Below.refl _ _⟩
    case round =>
      obtain ⟨k, hk, rfl, hno, hbe⟩ := hrel
      have HNO := Lib.hid hno
      have HBE := Lib.hid hbe
      clear hno hbe
      by_cases hlt : k < xs.length
      · have hlt' : decide ((k : Int) < (xs.length : Int)) = true := by simpa using hlt
        obtain ⟨b, o, rfl, hc⟩ := HX.out.resolve_left (fun h => by rw [h] at hlt; simp at hlt)
        have hlt2 : k < ys.length := by rw [← HLL.out]; exact hlt
        obtain ⟨b2, o2, rfl, hd⟩ := HY.out.resolve_left (fun h => by rw [h] at hlt2; simp at hlt2)
        have ck := hc k hlt
        have dk := hd k hlt2
        rw [← HBE.out.cell (World.block_lt_of_cell? w _ ck)] at ck
        rw [← HBE.out.cell (World.block_lt_of_cell? w _ dk)] at dk
        obtain ⟨y, hy⟩ : ∃ y, xs[k] = y := ⟨_, rfl⟩
        obtain ⟨z, hz⟩ : ∃ z, ys[k] = z := ⟨_, rfl⟩
        rw [hy] at ck
        rw [hz] at dk
        have hyd : xs.getD k 0 = y := by simp [hlt, hy]
        have hzd : ys.getD k 0 = z := by simp [hlt2, hz]
        have HYD := Lib.hid hyd
        have HZD := Lib.hid hzd
        have i1 : (0 : Int) ≤ (k : Int) := by omega
        have i2 : (k : Int) < (xs.length : Int) := by omega
        clear hc hd hyd hzd hy hz
        by_cases e : y = z
        · subst e
          have hb : (y != y) = false := by simp
          go_wp2_with fail
          go_region_held3 (fun X => X.cell? ⟨b, o + k, none⟩ = some (.int .i64 y) ∧ X.cell? ⟨b2, o2 + k, none⟩ = some (.int .i64 y)) (go_keep) (fail)
          go_wp2_with fail
          go_roundw
          case rel => exact ⟨k + 1, by omega, by go_num, fun j hj => by
            by_cases e : j = k
            · rw [e, HYD.out, HZD.out]
            · exact HNO.out j (by omega), HBE.out.drew⟩
          case measure => simp [intOf]; omega
        · have hb : (y != z) = true := by simpa using e
          have hf : decide (xs = ys) = false := by
            rw [decide_eq_false_iff_not]
            rintro rfl
            exact e (HYD.out.symm.trans HZD.out)
          have HF := Lib.hid hf
          clear hf
          go_wp2_with fail
          go_region_held3 (fun X => X.cell? ⟨b, o + k, none⟩ = some (.int .i64 y) ∧ X.cell? ⟨b2, o2 + k, none⟩ = some (.int .i64 z)) (go_keep) (fail)
          go_wp2_with fail
          go_ret
          exact ⟨by rw [HF.out]; rfl, HBE.out.drew⟩
      · have hlt' : decide ((k : Int) < (xs.length : Int)) = false := by simpa using hlt
        have hf : decide (xs = ys) = true := by
          rw [decide_eq_true_eq]
          apply List.ext_getElem HLL.out
          intro j h1 h2
          have := HNO.out j (by omega)
          simpa [h1, h2] using this
        have HF := Lib.hid hf
        clear hf
        go_wp2_with fail
        go_ret
        exact ⟨by rw [HF.out]; rfl, HBE.out⟩
  · have hne : ((xs.length : Int) != (ys.length : Int)) = true := by rw [bne_iff_ne]; omega
    have hf : decide (xs = ys) = false := by
      rw [decide_eq_false_iff_not]
      rintro rfl
      exact hl rfl
    have HF := Lib.hid hf
    clear hf hl
    go_enter Try.func59, Try.ntmps59
    go_wp2_with fail
    go_ret
    exact ⟨by rw [HF.out]; rfl, Below.refl _ _⟩
/-- A text's numbers. -/
def intsN (t : List Nat) : List Int := t.map (fun (n : Nat) => (n : Int))
theorem intsN_len (t : List Nat) : (intsN t).length = t.length := List.length_map _
theorem intsN_get (t : List Nat) {i : Nat} (h : i < t.length) : (intsN t)[i]'(by rw [intsN_len]; exact h) = (t[i] : Int) := by simp [intsN]
theorem IntsAt.atN {W : World} {v : Value} {t : List Nat} (h : IntsAt W v (intsN t)) {k : Nat} (hk : k < t.length) : ∃ b o cap, v = .slice (some ⟨b, o, none⟩) t.length cap ∧ W.cell? ⟨b, o + k, none⟩ = some (.int .i64 (t[k] : Int)) := by
  obtain ⟨A, cap, rfl, h⟩ := h
  have hk' : k < (intsN t).length := by rw [intsN_len]; exact hk
  obtain ⟨b, o, rfl, hc⟩ := h.resolve_left (fun h => by rw [h] at hk'; simp at hk')
  refine ⟨b, o, cap, by rw [intsN_len], ?_⟩
  rw [hc k hk', intsN_get t hk]
theorem IntsAt.sliceN {W : World} {v : Value} {t : List Nat} (h : IntsAt W v (intsN t)) : ∃ A cap, v = .slice A t.length cap := by
  obtain ⟨A, cap, rfl, _⟩ := h
  exact ⟨A, cap, by rw [intsN_len]⟩
set_option maxRecDepth 100000 in
set_option maxHeartbeats 1000000 in
theorem isText_any (A : Option Addr) (cap n : Nat) (v : Value) (t : List Nat) (w : World) (hn : n ≤ 6) (hv : IntsAt w v (intsN t)) (ht : ∀ x ∈ t, x < n) (hl : t.length ≤ 1000) :
    Calls Try.prog 57 #[.agg #[.slice A n cap], v] w fun e w' => e = .returned (.bool true) ∧ Below w.heap.size w w' := by
  obtain ⟨Av, cv, rfl⟩ := hv.sliceN
  have hB : Below w.heap.size w (w.alloc (.cells #[.slice A n cap] 77)) := (Below.refl _ _).alloc (Nat.le_refl _) _
  have hN := Go.heap_alloc_new w (.cells #[.slice A n cap] 77)
  have HB := Lib.hid hB
  have HV := Lib.hid (hv.keep hB (Nat.le_refl _))
  have HT := Lib.hid ht
  have HN := Lib.hid hN
  clear hB hv ht hN
  go_enter Try.func57, Try.ntmps57
  go_wp2_with fail
  generalize w.alloc (.cells #[.slice A n cap] 77) = w1 at HB HV HN ⊢
  obtain ⟨Bc, hBc⟩ : ∃ B, w.heap.size = B := ⟨_, rfl⟩
  rw [hBc] at HN ⊢
  clear hBc
  go_loopw [5] (fun i wr => ∃ k : Nat, k ≤ t.length ∧ i = .int .i64 k ∧ Below w1.heap.size w1 wr) (fun i _ => t.length - (intOf i).toNat)
  case atStart => exact ⟨0, by omega, rfl, Below.refl _ _⟩
  case round =>
    obtain ⟨k, hk, rfl, hbe⟩ := hrel
    have HBE := Lib.hid hbe
    have c0 : wr.cell? ⟨Bc, 0, none⟩ = some (.slice A n cap) := cell_later hbe (by simp [World.cell?, HN.out])
    by_cases hlt : k < t.length
    · have hlt' : decide ((k : Int) < (t.length : Int)) = true := by simpa using hlt
      obtain ⟨b, o, cv', he, hc⟩ := HV.out.atN hlt
      cases he
      have c1 := cell_later hbe hc
      have hx := HT.out t[k] (List.getElem_mem hlt)
      obtain ⟨x, hx2⟩ : ∃ x, t[k] = x := ⟨_, rfl⟩
      rw [hx2] at c1 hx
      have i1 : (0 : Int) ≤ (k : Int) := by omega
      have i2 : (k : Int) < (t.length : Int) := by omega
      have v1 : IntKind.i64.wrap ((n : Int) - 1) = (n : Int) - 1 := IntWalk.i64_in _ (by omega)
      have hin := Lib.hid (fun X => refIn2_any (x : Int) 0 ((n : Int) - 1) X)
      rw [show inB (x : Int) 0 ((n : Int) - 1) = true from inB_true.2 (by omega)] at hin
      clear hbe hc hx2
      go_wp2_with fail
      go_region_held3 (fun X => X.cell? ⟨Bc, 0, none⟩ = some (.slice A n cap) ∧ X.cell? ⟨b, o + k, none⟩ = some (.int .i64 (x : Int))) (go_keep) ((go_at_call 84; refine (hin.out _).mono ?_; rintro e w' ⟨rfl, rfl⟩))
      clear c0 c1 hin
      go_wp2_with fail
      go_roundw
      case rel => exact ⟨k + 1, by omega, by go_num, HBE.out.drew⟩
      case measure => simp [intOf]; omega
    · have hlt' : decide ((k : Int) < (t.length : Int)) = false := by simpa using hlt
      clear hbe
      go_wp2_with fail
      go_ret
      exact ⟨rfl, HB.out.trans (HBE.out.mono HB.out.size)⟩
/-- A number by its digits. -/
def valN (b : Nat) (t : List Nat) : Nat := t.foldl (fun n x => n * b + x) 0
theorem valN_snoc (b : Nat) (t : List Nat) (x : Nat) : valN b (t ++ [x]) = valN b t * b + x := by simp [valN]
theorem valN_lt {b : Nat} : ∀ {t : List Nat}, (∀ x ∈ t, x < b) → valN b t < b ^ t.length := by
  have h : ∀ (n : Nat) (t : List Nat), t.length = n → (∀ x ∈ t, x < b) → valN b t < b ^ t.length := by
    intro n
    induction n with
    | zero =>
      intro t ht _
      obtain rfl := List.length_eq_zero_iff.1 ht
      simp [valN]
    | succ n ih =>
      intro t ht hx
      have hne : t ≠ [] := fun e => by rw [e] at ht; simp at ht
      obtain ⟨s, y, rfl⟩ : ∃ s y, t = s ++ [y] := ⟨t.dropLast, t.getLast hne, (List.dropLast_concat_getLast hne).symm⟩
      have hs := ih s (by simpa using ht) fun x h => hx x (by simp [h])
      have hy := hx y (by simp)
      rw [valN_snoc, List.length_append, List.length_singleton, Nat.pow_succ]
      have : (valN b s + 1) * b ≤ b ^ s.length * b := Nat.mul_le_mul_right _ hs
      rw [Nat.add_mul] at this
      omega
  exact fun {t} hx => h t.length t rfl hx
def quN (b n : Nat) : List Nat := [n / b / b / b % b, n / b / b % b, n / b % b, n % b]
theorem quN_lt {b n : Nat} (hb : 0 < b) : ∀ x ∈ quN b n, x < b := by
  intro x hx
  simp only [quN, List.mem_cons, List.not_mem_nil, or_false] at hx
  rcases hx with rfl | rfl | rfl | rfl <;> exact Nat.mod_lt _ hb
theorem val_qu {b n : Nat} (h0 : 3 ≤ b) (h1 : b ≤ 6) (hn : n ≤ 40) : valN b (quN b n) = n := by
  rcases (show b = 3 ∨ b = 4 ∨ b = 5 ∨ b = 6 by omega) with rfl | rfl | rfl | rfl <;>
  · simp only [valN, quN, List.foldl_cons, List.foldl_nil]
    omega
set_option maxRecDepth 100000 in
set_option maxHeartbeats 1000000 in
theorem valued_any (v : Value) (t : List Nat) (b : Nat) (w : World) (hv : IntsAt w v (intsN t)) (hx : ∀ x ∈ t, x < b) (hl : t.length = 4) (h0 : 3 ≤ b) (h1 : b ≤ 6) :
    Calls Try.prog 58 #[v, .int .i64 b] w fun e w' => e = .returned (.int .i64 (valN b t : Nat)) ∧ w = w' := by
  obtain ⟨Av, cv, rfl⟩ := hv.sliceN
  have HV := Lib.hid hv
  have HX := Lib.hid hx
  have HL := Lib.hid hl
  have hl4 : t.length ≤ 4 := by omega
  clear hv hx hl
  go_enter Try.func58, Try.ntmps58
  go_wp2_with fail
  go_loop [5, 6] (fun n i => ∃ k : Nat, k ≤ t.length ∧ i = .int .i64 k ∧ n = .int .i64 (valN b (t.take k) : Nat)) (fun _ i => t.length - (intOf i).toNat)
  case atStart => exact ⟨0, by omega, rfl, rfl⟩
  case round =>
    obtain ⟨k, hk, rfl, rfl⟩ := hrel
    have hbd := valN_lt (t := t.take k) fun x h => HX.out x (List.mem_of_mem_take h)
    have hb4 : b ^ (t.take k).length ≤ 1296 := Nat.le_trans (Nat.pow_le_pow_left h1 _) (Nat.pow_le_pow_right (n := 6) (by omega) (show (t.take k).length ≤ 4 by rw [List.length_take]; omega))
    have hbp := Nat.lt_of_lt_of_le hbd hb4
    clear hbd hb4
    by_cases hlt : k < t.length
    · have hlt' : decide ((k : Int) < (t.length : Int)) = true := by simpa using hlt
      obtain ⟨b', o, cv', he, hc⟩ := HV.out.atN hlt
      cases he
      have hx := HX.out t[k] (List.getElem_mem hlt)
      have hs := valN_snoc b (t.take k) t[k]
      rw [← List.take_succ_eq_append_getElem hlt] at hs
      have HS := Lib.hid hs
      obtain ⟨x, hx2⟩ : ∃ x, t[k] = x := ⟨_, rfl⟩
      rw [hx2] at hc hx HS
      have i1 : (0 : Int) ≤ (k : Int) := by omega
      have i2 : (k : Int) < (t.length : Int) := by omega
      clear hs hx2
      generalize valN b (t.take k) = N at hbp HS ⊢
      have hm := Nat.mul_le_mul (Nat.le_of_lt hbp) h1
      have m0 : (0 : Int) ≤ (N : Int) * (b : Int) := by rw [← Int.natCast_mul]; omega
      have m1 : (N : Int) * (b : Int) ≤ 10000 := by rw [← Int.natCast_mul]; omega
      clear hm
      go_wp2_with fail
      go_round
      case rel => exact ⟨k + 1, by omega, by go_num, by rw [HS.out]; go_num⟩
      case measure => simp [intOf]; omega
    · have hlt' : decide ((k : Int) < (t.length : Int)) = false := by simpa using hlt
      obtain rfl : k = t.length := by omega
      have HTK := Lib.hid (congrArg (valN b) (List.take_length (l := t)))
      clear hlt hk
      go_wp2_with fail
      go_ret
      exact ⟨by rw [← HTK.out]; rfl, rfl⟩
theorem wrap_div {n b : Nat} (h : n ≤ 1000) : IntKind.i64.wrap ((n : Int) / (b : Int)) = ((n / b : Nat) : Int) := by
  rw [← Int.natCast_ediv]
  have := Nat.div_le_self n b
  generalize n / b = q at this ⊢
  exact IntWalk.i64_in _ (by omega)
theorem mod_nat (n b : Nat) : (n : Int) % (b : Int) = ((n % b : Nat) : Int) := by rw [← Int.natCast_emod]
theorem tmod_nat (n b : Nat) : (n : Int).tmod (b : Int) = ((n % b : Nat) : Int) := by
  rw [Int.tmod_eq_emod_of_nonneg (by omega), ← Int.natCast_emod]
set_option maxRecDepth 100000 in
set_option maxHeartbeats 2000000 in
theorem quartet_any (n b : Nat) (w : World) (hn : n ≤ 40) (h0 : 3 ≤ b) (h1 : b ≤ 6) :
    Calls Try.prog 52 #[.int .i64 n, .int .i64 b] w fun e w' => ∃ v, e = .returned v ∧ IntsAt w' v (intsN (quN b n)) ∧ Below w.heap.size w w' := by
  have hq : ∃ q1 q2 q3 r0 r1 r2 r3 : Nat, n / b = q1 ∧ q1 / b = q2 ∧ q2 / b = q3 ∧ n % b = r0 ∧ q1 % b = r1 ∧ q2 % b = r2 ∧ q3 % b = r3 := ⟨_, _, _, _, _, _, _, rfl, rfl, rfl, rfl, rfl, rfl, rfl⟩
  obtain ⟨q1, q2, q3, r0, r1, r2, r3, e1, e2, e3, f0, f1, f2, f3⟩ := hq
  have b1 : q1 ≤ 1000 := by rw [← e1]; have := Nat.div_le_self n b; omega
  have b2 : q2 ≤ 1000 := by rw [← e2]; have := Nat.div_le_self q1 b; omega
  have hqu : quN b n = [r3, r2, r1, r0] := by unfold quN; rw [e1, e2, e3, f0, f1, f2, f3]
  have d1 := wrap_div (n := n) (b := b) (by omega)
  have d2 := wrap_div (n := q1) (b := b) b1
  have d3 := wrap_div (n := q2) (b := b) b2
  have m0 := tmod_nat n b
  have m1 := tmod_nat q1 b
  have m2 := tmod_nat q2 b
  have m3 := tmod_nat q3 b
  have g0 := mod_nat n b
  have g1 := mod_nat q1 b
  have g2 := mod_nat q2 b
  have g3 := mod_nat q3 b
  rw [f0] at g0
  rw [f1] at g1
  rw [f2] at g2
  rw [f3] at g3
  have z2 : ¬ b = 0 := by omega
  rw [e1] at d1
  rw [e2] at d2
  rw [e3] at d3
  rw [f0] at m0
  rw [f1] at m1
  rw [f2] at m2
  rw [f3] at m3
  have z0 : ((b : Int) == 0) = false := by simp; omega
  have z1 : ¬ (b : Int) = 0 := by omega
  rw [hqu]
  have hint : IntsAt (w.alloc (.cells #[.int .i64 r3, .int .i64 r2, .int .i64 r1, .int .i64 r0] 3)) (.slice (some ⟨w.heap.size, 0, none⟩) 4 4) (intsN [r3, r2, r1, r0]) := by
    refine ⟨_, 4, rfl, .inr ⟨w.heap.size, 0, rfl, fun i hi => ?_⟩⟩
    have hh := Go.heap_alloc_new w (.cells #[.int .i64 r3, .int .i64 r2, .int .i64 r1, .int .i64 r0] 3)
    have hi4 : i < 4 := hi
    simp only [World.cell?, hh, Nat.zero_add]
    rcases (show i = 0 ∨ i = 1 ∨ i = 2 ∨ i = 3 by omega) with rfl | rfl | rfl | rfl <;> rfl
  have HI := Lib.hid hint
  have HB := Lib.hid (show Below w.heap.size w (w.alloc (.cells #[.int .i64 r3, .int .i64 r2, .int .i64 r1, .int .i64 r0] 3)) from (Below.refl _ _).alloc (Nat.le_refl _) _)
  clear e1 e2 e3 f0 f1 f2 f3 hqu hint
  go_enter Try.func52, Try.ntmps52
  go_wp2_with fail
  refine wp_region_held_drew (S := fun X => True) (by kernel_rfl) (trivial) (fun hS0 => ?_)
  refine wpAnyH_take (i := 0) (oi := { dst := some 5, op := Op.move (Operand.tmp 0), type := 3, pos := "top07w.go:22", after := #[], guard := none }) (v := ?_) rfl (by kernel_rfl) (by kernel_rfl) (by kernel_rfl) (fun _ _ _ h => h) (Or.inl ⟨by rfl, ?_⟩) hS0 ?_
  rotate_left
  · intro X hX
    obtain x0 := hX
    go_simp
    try with_reducible rfl
  simp only [Act.put, List.setIfInBounds_toArray, List.set_cons_zero, List.set_cons_succ, Array.toArray_toList]
  refine wpAnyH_take (i := 1) (oi := { dst := some 6, op := Op.move (Operand.tmp 1), type := 3, pos := "top07w.go:22", after := #[], guard := none }) (v := ?_) rfl (by kernel_rfl) (by kernel_rfl) (by kernel_rfl) (fun _ _ _ h => h) (Or.inl ⟨by rfl, ?_⟩) hS0 ?_
  rotate_left
  · intro X hX
    obtain x0 := hX
    go_simp
    try with_reducible rfl
  simp only [Act.put, List.setIfInBounds_toArray, List.set_cons_zero, List.set_cons_succ, Array.toArray_toList]
  refine wpAnyH_take (i := 2) (oi := { dst := some 7, op := Op.binOp BinOp.quo 3 (Operand.tmp 5) (Operand.tmp 6) 3, type := 3, pos := "top07w.go:22", after := #[{ on := 0, ground := Ground.data }, { on := 1, ground := Ground.data }], guard := none }) (v := ?_) rfl (by kernel_rfl) (by kernel_rfl) (by kernel_rfl) (fun _ _ _ h => h) (Or.inl ⟨by rfl, ?_⟩) hS0 ?_
  rotate_left
  · intro X hX
    obtain x0 := hX
    go_simp
    try with_reducible rfl
  simp only [Act.put, List.setIfInBounds_toArray, List.set_cons_zero, List.set_cons_succ, Array.toArray_toList]
  refine wpAnyH_take (i := 3) (oi := { dst := some 8, op := Op.move (Operand.tmp 1), type := 3, pos := "top07w.go:22", after := #[], guard := none }) (v := ?_) rfl (by kernel_rfl) (by kernel_rfl) (by kernel_rfl) (fun _ _ _ h => h) (Or.inl ⟨by rfl, ?_⟩) hS0 ?_
  rotate_left
  · intro X hX
    obtain x0 := hX
    go_simp
    try with_reducible rfl
  simp only [Act.put, List.setIfInBounds_toArray, List.set_cons_zero, List.set_cons_succ, Array.toArray_toList]
  refine wpAnyH_take (i := 4) (oi := { dst := some 9, op := Op.binOp BinOp.quo 3 (Operand.tmp 7) (Operand.tmp 8) 3, type := 3, pos := "top07w.go:22", after := #[{ on := 2, ground := Ground.data }, { on := 3, ground := Ground.data }], guard := none }) (v := ?_) rfl (by kernel_rfl) (by kernel_rfl) (by kernel_rfl) (fun _ _ _ h => h) (Or.inl ⟨by rfl, ?_⟩) hS0 ?_
  rotate_left
  · intro X hX
    obtain x0 := hX
    go_simp
    try with_reducible rfl
  simp only [Act.put, List.setIfInBounds_toArray, List.set_cons_zero, List.set_cons_succ, Array.toArray_toList]
  refine wpAnyH_take (i := 5) (oi := { dst := some 10, op := Op.move (Operand.tmp 1), type := 3, pos := "top07w.go:22", after := #[], guard := none }) (v := ?_) rfl (by kernel_rfl) (by kernel_rfl) (by kernel_rfl) (fun _ _ _ h => h) (Or.inl ⟨by rfl, ?_⟩) hS0 ?_
  rotate_left
  · intro X hX
    obtain x0 := hX
    go_simp
    try with_reducible rfl
  simp only [Act.put, List.setIfInBounds_toArray, List.set_cons_zero, List.set_cons_succ, Array.toArray_toList]
  refine wpAnyH_take (i := 6) (oi := { dst := some 11, op := Op.binOp BinOp.quo 3 (Operand.tmp 9) (Operand.tmp 10) 3, type := 3, pos := "top07w.go:22", after := #[{ on := 4, ground := Ground.data }, { on := 5, ground := Ground.data }], guard := none }) (v := ?_) rfl (by kernel_rfl) (by kernel_rfl) (by kernel_rfl) (fun _ _ _ h => h) (Or.inl ⟨by rfl, ?_⟩) hS0 ?_
  rotate_left
  · intro X hX
    obtain x0 := hX
    go_simp
    try with_reducible rfl
  simp only [Act.put, List.setIfInBounds_toArray, List.set_cons_zero, List.set_cons_succ, Array.toArray_toList]
  refine wpAnyH_take (i := 7) (oi := { dst := some 12, op := Op.move (Operand.tmp 1), type := 3, pos := "top07w.go:22", after := #[], guard := none }) (v := ?_) rfl (by kernel_rfl) (by kernel_rfl) (by kernel_rfl) (fun _ _ _ h => h) (Or.inl ⟨by rfl, ?_⟩) hS0 ?_
  rotate_left
  · intro X hX
    obtain x0 := hX
    go_simp
    try with_reducible rfl
  simp only [Act.put, List.setIfInBounds_toArray, List.set_cons_zero, List.set_cons_succ, Array.toArray_toList]
  refine wpAnyH_take (i := 8) (oi := { dst := some 13, op := Op.binOp BinOp.rem 3 (Operand.tmp 11) (Operand.tmp 12) 3, type := 3, pos := "top07w.go:22", after := #[{ on := 6, ground := Ground.data }, { on := 7, ground := Ground.data }], guard := none }) (v := ?_) rfl (by kernel_rfl) (by kernel_rfl) (by kernel_rfl) (fun _ _ _ h => h) (Or.inl ⟨by rfl, ?_⟩) hS0 ?_
  rotate_left
  · intro X hX
    obtain x0 := hX
    go_simp
    try with_reducible rfl
  simp only [Act.put, List.setIfInBounds_toArray, List.set_cons_zero, List.set_cons_succ, Array.toArray_toList]
  refine wpAnyH_take (i := 9) (oi := { dst := some 14, op := Op.move (Operand.tmp 0), type := 3, pos := "top07w.go:22", after := #[], guard := none }) (v := ?_) rfl (by kernel_rfl) (by kernel_rfl) (by kernel_rfl) (fun _ _ _ h => h) (Or.inl ⟨by rfl, ?_⟩) hS0 ?_
  rotate_left
  · intro X hX
    obtain x0 := hX
    go_simp
    try with_reducible rfl
  simp only [Act.put, List.setIfInBounds_toArray, List.set_cons_zero, List.set_cons_succ, Array.toArray_toList]
  refine wpAnyH_take (i := 10) (oi := { dst := some 15, op := Op.move (Operand.tmp 1), type := 3, pos := "top07w.go:22", after := #[], guard := none }) (v := ?_) rfl (by kernel_rfl) (by kernel_rfl) (by kernel_rfl) (fun _ _ _ h => h) (Or.inl ⟨by rfl, ?_⟩) hS0 ?_
  rotate_left
  · intro X hX
    obtain x0 := hX
    go_simp
    try with_reducible rfl
  simp only [Act.put, List.setIfInBounds_toArray, List.set_cons_zero, List.set_cons_succ, Array.toArray_toList]
  refine wpAnyH_take (i := 11) (oi := { dst := some 16, op := Op.binOp BinOp.quo 3 (Operand.tmp 14) (Operand.tmp 15) 3, type := 3, pos := "top07w.go:22", after := #[{ on := 9, ground := Ground.data }, { on := 10, ground := Ground.data }], guard := none }) (v := ?_) rfl (by kernel_rfl) (by kernel_rfl) (by kernel_rfl) (fun _ _ _ h => h) (Or.inl ⟨by rfl, ?_⟩) hS0 ?_
  rotate_left
  · intro X hX
    obtain x0 := hX
    go_simp
    try with_reducible rfl
  simp only [Act.put, List.setIfInBounds_toArray, List.set_cons_zero, List.set_cons_succ, Array.toArray_toList]
  refine wpAnyH_take (i := 12) (oi := { dst := some 17, op := Op.move (Operand.tmp 1), type := 3, pos := "top07w.go:22", after := #[], guard := none }) (v := ?_) rfl (by kernel_rfl) (by kernel_rfl) (by kernel_rfl) (fun _ _ _ h => h) (Or.inl ⟨by rfl, ?_⟩) hS0 ?_
  rotate_left
  · intro X hX
    obtain x0 := hX
    go_simp
    try with_reducible rfl
  simp only [Act.put, List.setIfInBounds_toArray, List.set_cons_zero, List.set_cons_succ, Array.toArray_toList]
  refine wpAnyH_take (i := 13) (oi := { dst := some 18, op := Op.binOp BinOp.quo 3 (Operand.tmp 16) (Operand.tmp 17) 3, type := 3, pos := "top07w.go:22", after := #[{ on := 11, ground := Ground.data }, { on := 12, ground := Ground.data }], guard := none }) (v := ?_) rfl (by kernel_rfl) (by kernel_rfl) (by kernel_rfl) (fun _ _ _ h => h) (Or.inl ⟨by rfl, ?_⟩) hS0 ?_
  rotate_left
  · intro X hX
    obtain x0 := hX
    go_simp
    try with_reducible rfl
  simp only [Act.put, List.setIfInBounds_toArray, List.set_cons_zero, List.set_cons_succ, Array.toArray_toList]
  refine wpAnyH_take (i := 14) (oi := { dst := some 19, op := Op.move (Operand.tmp 1), type := 3, pos := "top07w.go:22", after := #[], guard := none }) (v := ?_) rfl (by kernel_rfl) (by kernel_rfl) (by kernel_rfl) (fun _ _ _ h => h) (Or.inl ⟨by rfl, ?_⟩) hS0 ?_
  rotate_left
  · intro X hX
    obtain x0 := hX
    go_simp
    try with_reducible rfl
  simp only [Act.put, List.setIfInBounds_toArray, List.set_cons_zero, List.set_cons_succ, Array.toArray_toList]
  refine wpAnyH_take (i := 15) (oi := { dst := some 20, op := Op.binOp BinOp.rem 3 (Operand.tmp 18) (Operand.tmp 19) 3, type := 3, pos := "top07w.go:22", after := #[{ on := 13, ground := Ground.data }, { on := 14, ground := Ground.data }], guard := none }) (v := ?_) rfl (by kernel_rfl) (by kernel_rfl) (by kernel_rfl) (fun _ _ _ h => h) (Or.inl ⟨by rfl, ?_⟩) hS0 ?_
  rotate_left
  · intro X hX
    obtain x0 := hX
    go_simp
    try with_reducible rfl
  simp only [Act.put, List.setIfInBounds_toArray, List.set_cons_zero, List.set_cons_succ, Array.toArray_toList]
  refine wpAnyH_take (i := 16) (oi := { dst := some 21, op := Op.move (Operand.tmp 0), type := 3, pos := "top07w.go:22", after := #[], guard := none }) (v := ?_) rfl (by kernel_rfl) (by kernel_rfl) (by kernel_rfl) (fun _ _ _ h => h) (Or.inl ⟨by rfl, ?_⟩) hS0 ?_
  rotate_left
  · intro X hX
    obtain x0 := hX
    go_simp
    try with_reducible rfl
  simp only [Act.put, List.setIfInBounds_toArray, List.set_cons_zero, List.set_cons_succ, Array.toArray_toList]
  refine wpAnyH_take (i := 17) (oi := { dst := some 22, op := Op.move (Operand.tmp 1), type := 3, pos := "top07w.go:22", after := #[], guard := none }) (v := ?_) rfl (by kernel_rfl) (by kernel_rfl) (by kernel_rfl) (fun _ _ _ h => h) (Or.inl ⟨by rfl, ?_⟩) hS0 ?_
  rotate_left
  · intro X hX
    obtain x0 := hX
    go_simp
    try with_reducible rfl
  simp only [Act.put, List.setIfInBounds_toArray, List.set_cons_zero, List.set_cons_succ, Array.toArray_toList]
  refine wpAnyH_take (i := 18) (oi := { dst := some 23, op := Op.binOp BinOp.quo 3 (Operand.tmp 21) (Operand.tmp 22) 3, type := 3, pos := "top07w.go:22", after := #[{ on := 16, ground := Ground.data }, { on := 17, ground := Ground.data }], guard := none }) (v := ?_) rfl (by kernel_rfl) (by kernel_rfl) (by kernel_rfl) (fun _ _ _ h => h) (Or.inl ⟨by rfl, ?_⟩) hS0 ?_
  rotate_left
  · intro X hX
    obtain x0 := hX
    go_simp
    try with_reducible rfl
  simp only [Act.put, List.setIfInBounds_toArray, List.set_cons_zero, List.set_cons_succ, Array.toArray_toList]
  refine wpAnyH_take (i := 19) (oi := { dst := some 24, op := Op.move (Operand.tmp 1), type := 3, pos := "top07w.go:22", after := #[], guard := none }) (v := ?_) rfl (by kernel_rfl) (by kernel_rfl) (by kernel_rfl) (fun _ _ _ h => h) (Or.inl ⟨by rfl, ?_⟩) hS0 ?_
  rotate_left
  · intro X hX
    obtain x0 := hX
    go_simp
    try with_reducible rfl
  simp only [Act.put, List.setIfInBounds_toArray, List.set_cons_zero, List.set_cons_succ, Array.toArray_toList]
  refine wpAnyH_take (i := 20) (oi := { dst := some 25, op := Op.binOp BinOp.rem 3 (Operand.tmp 23) (Operand.tmp 24) 3, type := 3, pos := "top07w.go:22", after := #[{ on := 18, ground := Ground.data }, { on := 19, ground := Ground.data }], guard := none }) (v := ?_) rfl (by kernel_rfl) (by kernel_rfl) (by kernel_rfl) (fun _ _ _ h => h) (Or.inl ⟨by rfl, ?_⟩) hS0 ?_
  rotate_left
  · intro X hX
    obtain x0 := hX
    go_simp
    try with_reducible rfl
  simp only [Act.put, List.setIfInBounds_toArray, List.set_cons_zero, List.set_cons_succ, Array.toArray_toList]
  refine wpAnyH_take (i := 21) (oi := { dst := some 26, op := Op.move (Operand.tmp 0), type := 3, pos := "top07w.go:22", after := #[], guard := none }) (v := ?_) rfl (by kernel_rfl) (by kernel_rfl) (by kernel_rfl) (fun _ _ _ h => h) (Or.inl ⟨by rfl, ?_⟩) hS0 ?_
  rotate_left
  · intro X hX
    obtain x0 := hX
    go_simp
    try with_reducible rfl
  simp only [Act.put, List.setIfInBounds_toArray, List.set_cons_zero, List.set_cons_succ, Array.toArray_toList]
  refine wpAnyH_take (i := 22) (oi := { dst := some 27, op := Op.move (Operand.tmp 1), type := 3, pos := "top07w.go:22", after := #[], guard := none }) (v := ?_) rfl (by kernel_rfl) (by kernel_rfl) (by kernel_rfl) (fun _ _ _ h => h) (Or.inl ⟨by rfl, ?_⟩) hS0 ?_
  rotate_left
  · intro X hX
    obtain x0 := hX
    go_simp
    try with_reducible rfl
  simp only [Act.put, List.setIfInBounds_toArray, List.set_cons_zero, List.set_cons_succ, Array.toArray_toList]
  refine wpAnyH_take (i := 23) (oi := { dst := some 28, op := Op.binOp BinOp.rem 3 (Operand.tmp 26) (Operand.tmp 27) 3, type := 3, pos := "top07w.go:22", after := #[{ on := 21, ground := Ground.data }, { on := 22, ground := Ground.data }], guard := none }) (v := ?_) rfl (by kernel_rfl) (by kernel_rfl) (by kernel_rfl) (fun _ _ _ h => h) (Or.inl ⟨by rfl, ?_⟩) hS0 ?_
  rotate_left
  · intro X hX
    obtain x0 := hX
    go_simp
    try with_reducible rfl
  simp only [Act.put, List.setIfInBounds_toArray, List.set_cons_zero, List.set_cons_succ, Array.toArray_toList]
  refine wpAnyH_ready (rs := [24]) (by kernel_rfl) (by simp) (AllReadyH.cons (o := { dst := some 29, op := Op.buildSlice 25 4 #[(0, Operand.tmp 13), (1, Operand.tmp 20), (2, Operand.tmp 25), (3, Operand.tmp 28)], type := 25, pos := "top07w.go:22", after := #[{ on := 8, ground := Ground.data }, { on := 15, ground := Ground.data }, { on := 20, ground := Ground.data }, { on := 23, ground := Ground.data }], guard := none }) rfl (fun K hK => ?_) AllReadyH.nil)
  go_simp
  refine hK.out _ _ (trivial) (fun hS1 => ?_)
  clear hS0 hK K
  refine wpAnyH_take (i := 25) (oi := { dst := some 4, op := Op.assign (Operand.tmp 29), type := 25, pos := "top07w.go:22", after := #[{ on := 24, ground := Ground.data }, { on := 0, ground := Ground.phase }, { on := 1, ground := Ground.phase }, { on := 2, ground := Ground.phase }, { on := 3, ground := Ground.phase }, { on := 4, ground := Ground.phase }, { on := 5, ground := Ground.phase }, { on := 6, ground := Ground.phase }, { on := 7, ground := Ground.phase }, { on := 8, ground := Ground.phase }, { on := 9, ground := Ground.phase }, { on := 10, ground := Ground.phase }, { on := 11, ground := Ground.phase }, { on := 12, ground := Ground.phase }, { on := 13, ground := Ground.phase }, { on := 14, ground := Ground.phase }, { on := 15, ground := Ground.phase }, { on := 16, ground := Ground.phase }, { on := 17, ground := Ground.phase }, { on := 18, ground := Ground.phase }, { on := 19, ground := Ground.phase }, { on := 20, ground := Ground.phase }, { on := 21, ground := Ground.phase }, { on := 22, ground := Ground.phase }, { on := 23, ground := Ground.phase }, { on := 24, ground := Ground.phase }], guard := none }) (v := ?_) rfl (by kernel_rfl) (by kernel_rfl) (by kernel_rfl) (fun _ _ _ h => h) (Or.inl ⟨by rfl, ?_⟩) hS1 ?_
  rotate_left
  · intro X hX
    obtain x0 := hX
    go_simp
    try with_reducible rfl
  simp only [Act.put, List.setIfInBounds_toArray, List.set_cons_zero, List.set_cons_succ, Array.toArray_toList]
  refine wpAnyH_done (by kernel_rfl) ?_ _
  clear hS1
  go_wp2_with fail
  go_ret
  exact ⟨_, rfl, HI.out, HB.out.drew⟩
end
end Go.Proofs.Ytkloaeaepjoijaa
namespace Go.Proofs.Ytkloaeaepjoijaa
section
open Go.RowKit Go.WalkArith
/-- A text that the call made: a row of numbers of its own. -/
def TxtAt (W : World) (base : Nat) (v : Value) (t : List Nat) : Prop := W.ownsRow base 3 1 v t.length ((intsN t).map (Value.int .i64))
theorem TxtAt.ints {W : World} {base : Nat} {v : Value} {t : List Nat} (h : TxtAt W base v t) : IntsAt W v (intsN t) := IntsAt.of_own h
theorem TxtAt.nilOr {W : World} {base : Nat} {v : Value} {t : List Nat} (h : TxtAt W base v t) : (t = [] ∧ v = .slice none 0 0) ∨ ∃ g cap, v = .slice (some ⟨g, 0, none⟩) t.length cap := by
  rcases h.2 with ⟨rfl, h0⟩ | ⟨g, cap, cur, rfl, _⟩
  · exact .inl ⟨List.length_eq_zero_iff.1 h0, rfl⟩
  · exact .inr ⟨g, cap, rfl⟩
theorem ints_cells' {W : World} {b o n cap : Nat} {xs : List Int} (h : IntsAt W (.slice (some ⟨b, o, none⟩) n cap) xs) : ∀ j u, (xs.map (Value.int .i64))[j]? = some u → W.cell? ((⟨b, o, none⟩ : Addr).add j) = some u := by
  obtain ⟨A, c, he, h⟩ := h
  cases he
  intro j u hj
  rw [List.getElem?_map] at hj
  cases e : xs[j]? with
  | none => rw [e] at hj; cases hj
  | some s =>
    rw [e] at hj
    obtain ⟨hj2, rfl⟩ := List.getElem?_eq_some_iff.1 e
    obtain ⟨b', o', he, hc⟩ := h.resolve_left (fun h => by rw [h] at hj2; simp at hj2)
    cases he
    have := hc j hj2
    simp only [Option.map_some, Option.some.injEq] at hj
    rw [← hj]
    unfold Addr.add
    by_cases h0 : j = 0
    · subst h0; simpa using this
    · simpa [h0] using this
set_option maxRecDepth 100000 in
theorem clone_nil (w : World) : Calls Try.prog 114 #[.slice none 0 0] w fun e w' => e = .returned (.slice none 0 0) ∧ w = w' := by
  have hnl := fun (W : World) => Lib.run_eql_slice_nil (P := Try.prog) W 25 3 none 0 0 0 0 Try.underlying25
  go_enter Try.func114, Try.ntmps114
  go_wp2_with fail
  go_ret
  exact ⟨rfl, rfl⟩
set_option maxRecDepth 100000 in
set_option maxHeartbeats 1000000 in
theorem clone_some (g cap : Nat) (t : List Nat) (w : World) (h : IntsAt w (.slice (some ⟨g, 0, none⟩) t.length cap) (intsN t)) (hp : 0 < t.length) (hl : t.length ≤ 1000) :
    Calls Try.prog 114 #[.slice (some ⟨g, 0, none⟩) t.length cap] w fun e w' => ∃ g' cap', e = .returned (.slice (some ⟨g', 0, none⟩) t.length cap') ∧ w.heap.size ≤ g' ∧ g' < w'.heap.size ∧ IntsAt w' (.slice (some ⟨g', 0, none⟩) t.length cap') (intsN t) ∧ Below w.heap.size w w' := by
  obtain ⟨i0, hi0, hz0, hz1, hz2⟩ := info_parts Try.info3
  have hB : Below w.heap.size w (w.alloc (.cells #[] 3)) := (Below.refl _ _).alloc (Nat.le_refl _) _
  have HI := Lib.hid (ints_cells' (h.keep hB (Nat.le_refl _)))
  have HM := Lib.hid (World.ownsRow_made (base := w.heap.size) (e := 3) (size := 1) w #[] 0 (Nat.le_refl _) (by decide) rfl)
  have HB := Lib.hid hB
  have hil := intsN_len t
  have HL := Lib.hid hil
  have hnl := fun (W : World) => Lib.run_eql_slice_nil (P := Try.prog) W 25 3 (some ⟨g, 0, none⟩) t.length cap 0 0 Try.underlying25
  clear h hB hil
  go_enter Try.func114, Try.ntmps114
  go_wp2_with (at_builtin; refine wpList_append_own _ rfl _ _ 25 rfl w.heap.size 3 i0 (.int .i64 0) 1 8 Try.underlying25 hi0 hz0 hz1 hz2 rfl (by decide) _ 0 [] rfl HM.out ⟨g, 0, none⟩ t.length cap ((intsN t).map (Value.int .i64)) rfl ?c1 HI.out ?c2 ?c3 ?c4 ?c5 ?_)
  case c1 => simp [HL.out]
  case c2 => intro u hu; obtain ⟨s, _, rfl⟩ := List.mem_map.1 hu; rfl
  case c3 => unfold maxLen; omega
  case c4 => omega
  case c5 => simp
  intro v' w1 hown hgrow _
  have hown2 : w1.ownsRow w.heap.size 3 1 v' t.length ((intsN t).map (Value.int .i64)) := by simpa using hown
  obtain ⟨g', cap', rfl, hg1, hg2⟩ := hown2.form hp
  have HX := Lib.hid (IntsAt.of_own hown2)
  have hbb : Below w.heap.size w w1 := HB.out.grown hgrow (by simp) (fun k hk => by simp [Value.ownBlock] at hk; omega)
  have HBB := Lib.hid hbb
  clear hown hown2 hgrow hbb
  go_wp2_with fail
  go_ret
  exact ⟨g', cap', rfl, hg1, hg2, HX.out, HBB.out⟩
/-- One number is appended to a text: in place, or in a new block. -/
def AppT (W W' : World) (base : Nat) (v : Value) (t : List Nat) (n g cap' : Nat) : Prop :=
  TxtAt W' base (.slice (some ⟨g, 0, none⟩) (t.length + 1) cap') (t ++ [n]) ∧ g < W'.heap.size ∧
    ((W.grownBy W' none ∧ W.heap.size ≤ g) ∨ (v = .slice (some ⟨g, 0, none⟩) t.length cap' ∧ W.grownBy W' (some g)))
theorem step_app_txt {ops : Array Oper} {o : Oper} {a : Act} {w : World} {K : Act → World → Prop} {Q : Exit → Act → World → Prop} {E : Prop} (hgd : o.guard = none) (s x : Operand)
    (ho : o.op = .call { callee := .builtin .append, args := #[s, x], argTypes := #[25, 25] }) (base : Nat) (v : Value) (t : List Nat) (n B : Nat)
    (hs : a.eval s = v) (hown : TxtAt w base v t) (hx : a.eval x = .slice (some ⟨B, 0, none⟩) 1 1) (hB : w.heap[B]? = some (.cells #[.int .i64 (n : Int)] 3 (0, 0))) (hl : t.length ≤ 1000) (hbase : base ≤ w.heap.size)
    (hK : ∀ g cap' w', AppT w w' base v t n g cap' → K (a.put o.dst (.slice (some ⟨g, 0, none⟩) (t.length + 1) cap')) w') :
    if Region.wanted o (yielded ops a.tmps) = true then Oper.wp Try.prog o a w K Q else E := by
  obtain ⟨i0, hi0, hz0, hz1, hz2⟩ := info_parts Try.info3
  have hw : Region.wanted o (yielded ops a.tmps) = true := by simp [Region.wanted, hgd]
  rw [if_pos hw]
  have hmap : ((intsN t).map (Value.int .i64)) ++ [.int .i64 (n : Int)] = (intsN (t ++ [n])).map (Value.int .i64) := by simp [intsN]
  have hnews := World.news_of_block (cs := #[.int .i64 (n : Int)]) (t := 3) (fr := (0, 0)) hB
  have hlt : (t ++ [n]).length = t.length + 1 := by simp
  have hown' := hown
  rcases hown.2 with ⟨hv, h0⟩ | ⟨g, cap, cur, hv, h1, h2, h3, h4, h5, h6⟩
  · subst hv
    refine wp_append_lies w s x 25 ho base 3 i0 (.int .i64 0) 1 8 Try.underlying25 hi0 hz0 hz1 hz2 rfl (by decide) _ t.length _ hs hown' ⟨B, 0, none⟩ 1 1 [.int .i64 (n : Int)] hx rfl hnews (by simp [Value.oneCell']) (by omega) (by unfold maxLen; omega) (by omega) hbase _ rfl ?_
    intro g cap' w' a1 a2 a3 a4
    refine hK g cap' w' ⟨?_, a4, .inl ⟨a2, ?_⟩⟩
    · unfold TxtAt; rw [hlt, ← hmap]; exact a1
    · rcases a3 with a3 | a3
      · simp [Value.ownBlock] at a3
      · omega
  · subst hv
    by_cases hc : t.length + 1 ≤ cap
    · obtain ⟨w', hrun, r1, r2⟩ := run_append_fits (P := Try.prog) w base 25 o.type 3 i0 1 Try.underlying25 hi0 hz1 g t.length cap _ hown' ⟨B, 0, none⟩ 1 1 [.int .i64 (n : Int)] rfl hnews (by simp [Value.oneCell']) hc
      unfold Oper.wp execOp
      simp only [ho, resolve, invoke, builtin, Sem.run_bind, Sem.run_pure, Result.andThen_ok, List.map_toArray, List.map_cons, List.map_nil, hs, hx, hrun]
      refine hK g cap w' ⟨?_, ?_, .inr ⟨rfl, r2⟩⟩
      · unfold TxtAt; rw [hlt, ← hmap]; exact r1
      · exact Nat.lt_of_lt_of_le (Array.getElem?_eq_some_iff.1 h2).1 r2.size
    · have hcell := ints_cells' (IntsAt.of_own hown')
      obtain ⟨v', w', hrun, r1, r2⟩ := run_append_arg_grows (P := Try.prog) w 25 o.type 3 i0 (.int .i64 0) 1 8 Try.underlying25 hi0 hz0 hz1 hz2 rfl (by decide) ⟨g, 0, none⟩ t.length cap ((intsN t).map (Value.int .i64)) (by simp [intsN]) hcell ⟨B, 0, none⟩ 1 1 [.int .i64 (n : Int)] rfl hnews (by omega) (by unfold maxLen; omega) (by omega)
      obtain ⟨g', cap', rfl, b1, b2⟩ := r1.form (by omega)
      unfold Oper.wp execOp
      simp only [ho, resolve, invoke, builtin, Sem.run_bind, Sem.run_pure, Result.andThen_ok, List.map_toArray, List.map_cons, List.map_nil, hs, hx, hrun]
      refine hK g' cap' w' ⟨?_, b2, .inl ⟨r2, b1⟩⟩
      unfold TxtAt
      rw [hlt, ← hmap]
      rcases r1.2 with ⟨q, _⟩ | ⟨q1, q2, q3, q4, q5, q6⟩
      · cases q
      · exact ⟨r1.1, .inr ⟨q1, q2, q3, q4, Nat.le_trans hbase q5, q6⟩⟩
end
end Go.Proofs.Ytkloaeaepjoijaa

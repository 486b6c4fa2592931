/-
  ProveTruth.
-/
import Derived.Test.YtkloaeaepjoijaaLeaveAll
set_option linter.all false
namespace Go.Proofs.Ytkloaeaepjoijaa
open Go.RowKit Go.WalkArith

theorem extract_two {rs : Array Value} {i : Nat} {a b : Value} (h0 : rs[i]? = some a) (h1 : rs[i + 1]? = some b) : rs.extract i (i + 2) = #[a, b] := by
  have l1 := (Array.getElem?_eq_some_iff.1 h1).1
  apply Array.ext
  · simp; omega
  · intro j h2 h3
    have h4 : j < 2 := by simpa using h3
    rw [Array.getElem_extract]
    match j, h4 with
    | 0, _ => simpa using (Array.getElem?_eq_some_iff.1 h0).2
    | 1, _ => simpa using (Array.getElem?_eq_some_iff.1 h1).2

theorem run_index_rooms {rs : Array Value} {lo hi : Int → Int} (h : RoomsV rs lo hi) {k : Nat} (hk : k < 12) (w : World) :
    (Instr.index 109 (.agg rs) (.int .i64 k)).run Try.prog w = .ok (.agg #[.int .i64 (lo k), .int .i64 (hi k)]) w := by
  have hu : Try.prog.underlying 109 = some (.array 12 58) := Try.underlying109
  have hsz : (sizeOf 58).run Try.prog w = .ok 2 w := by kernel_rfl
  have hag : (isAgg 58).run Try.prog w = .ok true w := by kernel_rfl
  have he := extract_two (h.lo k hk) (h.hi k hk)
  simp [Instr.index, asIntOf, run_underlying hu, part, hsz, hag, Result.andThen, he]
  omega

/-- A list as a function. -/
def fnOf (xs : List Int) (i : Int) : Int := xs.getD i.toNat 0
theorem fnOf_at {xs : List Int} {i : Nat} (h : i < xs.length) : fnOf xs i = xs[i] := by simp [fnOf, h]

/-- What comes together at a node. -/
def sumsP (l : List Ang) (x : Int → Int) (k : Nat) (v : Int) : Int := sumR k fun i => (if frL l i = v then x i else 0) + (if toL l i = v then x i else 0)

def roomsB (l : List Ang) (err : Int) (x : Int → Int) (k : Nat) : Bool := (List.range k).all fun i => inB (x i) (roomLo l err [] i) (roomHi l err [] i)
def sumsB (l : List Ang) (T C : Int) (x : Int → Int) : Bool := ((List.range T.toNat).all fun t => sumsP l x l.length t == 36) && ((List.range C.toNat).all fun c => sumsP l x l.length (5 + c) == 72)

/-- A list is a truth within an error. -/
def truthB (l : List Ang) (T C err : Int) (xs : List Int) : Bool := decide (askedL l T C err = 0) && (decide (xs.length = l.length) && (roomsB l err (fnOf xs) l.length && sumsB l T C (fnOf xs)))

theorem sumsP_bd (l : List Ang) (x : Int → Int) (v : Int) : ∀ k : Nat, (∀ i : Nat, i < k → 0 ≤ x i ∧ x i ≤ 40) → 0 ≤ sumsP l x k v ∧ sumsP l x k v ≤ 80 * (k : Int) := by
  intro k
  induction k with
  | zero => intro _; simp [sumsP, sumR]
  | succ k ih =>
    intro h
    have h1 := ih (fun i hi => h i (by omega))
    have h2 := h k (by omega)
    have e : sumsP l x (k + 1) v = sumsP l x k v + ((if frL l k = v then x k else 0) + (if toL l k = v then x k else 0)) := rfl
    rw [e]
    split <;> split <;> omega

theorem sumsP_step (l : List Ang) (x : Int → Int) (k : Nat) (p q X : Int) (hp : frL l k = p) (hq : toL l k = q) (hX : x k = X) (i : Int) : sumsP l x (k + 1) i = updG (updG (sumsP l x k) p (sumsP l x k p + X)) q (updG (sumsP l x k) p (sumsP l x k p + X) q + X) i := by
  have e : sumsP l x (k + 1) i = sumsP l x k i + ((if frL l k = i then x k else 0) + (if toL l k = i then x k else 0)) := rfl
  rw [e, hp, hq, hX]
  unfold updG
  by_cases e1 : i = q
  · subst e1
    by_cases e2 : i = p
    · subst e2; simp; omega
    · rw [if_neg (fun h => e2 h.symm), if_pos rfl, if_pos rfl, if_neg e2]; omega
  · rw [if_neg e1, if_neg (fun h : q = i => e1 h.symm)]
    by_cases e2 : i = p
    · subst e2; simp
    · rw [if_neg e2, if_neg (fun h => e2 h.symm)]; omega

def PRel (l : List Ang) (err : Int) (n : Nat) (x : Int → Int) (w : World) (Bn Bs : Nat) (net : Obj) (i : Value) (wr : World) : Prop :=
  ∃ k : Nat, k ≤ n ∧ i = .int .i64 k ∧ roomsB l err x k = true ∧ GiveAt wr Bs 107 (sumsP l x k) ∧ wr.heap[Bn]? = some net ∧ Below w.heap.size w wr

theorem roomsB_succ (l : List Ang) (err : Int) (x : Int → Int) (k : Nat) : roomsB l err x (k + 1) = (roomsB l err x k && inB (x k) (roomLo l err [] k) (roomHi l err [] k)) := by
  unfold roomsB
  rw [List.range_succ, List.all_append]
  simp

theorem roomsB_false {l : List Ang} {err : Int} {x : Int → Int} {k n : Nat} (hk : k < n) (h : inB (x k) (roomLo l err [] k) (roomHi l err [] k) = false) : roomsB l err x n = false := by
  unfold roomsB
  rw [List.all_eq_false]
  exact ⟨k, List.mem_range.2 hk, by rw [h]; simp⟩

theorem sumsB_t {l : List Ang} {T C : Int} {x : Int → Int} {n t : Nat} (hn : l.length = n) (ht : (t : Int) < T) (h : sumsP l x n t ≠ 36) : sumsB l T C x = false := by
  subst hn
  unfold sumsB
  rw [Bool.and_eq_false_iff]
  left
  rw [List.all_eq_false]
  exact ⟨t, List.mem_range.2 (by omega), by simpa using h⟩
theorem sumsB_c {l : List Ang} {T C : Int} {x : Int → Int} {n c : Nat} (hn : l.length = n) (hc : (c : Int) < C) (h : sumsP l x n (5 + c) ≠ 72) : sumsB l T C x = false := by
  subst hn
  unfold sumsB
  rw [Bool.and_eq_false_iff]
  right
  rw [List.all_eq_false]
  exact ⟨c, List.mem_range.2 (by omega), by simpa using h⟩
theorem sumsB_all {l : List Ang} {T C : Int} {x : Int → Int} {n : Nat} (hn : l.length = n) (h1 : ∀ t : Nat, (t : Int) < T → sumsP l x n t = 36) (h2 : ∀ c : Nat, (c : Int) < C → sumsP l x n (5 + c) = 72) : sumsB l T C x = true := by
  subst hn
  unfold sumsB
  rw [Bool.and_eq_true]
  refine ⟨List.all_eq_true.2 fun t ht => ?_, List.all_eq_true.2 fun c hc => ?_⟩
  · rw [h1 t (by have := List.mem_range.1 ht; omega)]; rfl
  · rw [h2 c (by have := List.mem_range.1 hc; omega)]; rfl

set_option maxRecDepth 100000 in
set_option maxHeartbeats 4000000 in
theorem proveTruth_any (A : Option Addr) (n cap : Nat) (T C err : Int) (l : List Ang) (tv : Value) (xs : List Int) (w : World) (hn : n ≤ 1000000) (hl : l.length = n) (hA : AngsAt w A l) (ht : IntsAt w tv xs) :
    Calls Try.prog 21 #[.agg #[.slice A n cap, .int .i64 T, .int .i64 C], .int .i64 err, tv] w fun e w' => e = .returned (.bool (truthB l T C err xs)) ∧ Below w.heap.size w w' := by
  obtain ⟨At, tcap, rfl, htx⟩ := ht
  have hB : Below w.heap.size w (w.alloc (.cells #[.slice A n cap, .int .i64 T, .int .i64 C] 33)) := (Below.refl _ _).alloc (Nat.le_refl _) _
  have hck := Lib.hid (asked_any A n cap T C err l _ hn hl (hA.keep hB (Nat.le_refl _)))
  have HB := Lib.hid hB
  have HTX := Lib.hid htx
  by_cases hf : askedL l T C err = 0
  · obtain ⟨hok, he0, he1⟩ := askedL_ok hf
    obtain ⟨b, o, rfl⟩ := hA.some hok.pos
    have n0 := Lib.hid (Go.heap_alloc_new w (.cells #[.slice (some ⟨b, o, none⟩) n cap, .int .i64 T, .int .i64 C] 33))
    have hn12 : n ≤ 12 := by rw [← hl]; exact hok.len
    rw [hf] at hck
    by_cases hlen : xs.length = n
    · have htb : truthB l T C err xs = (roomsB l err (fnOf xs) n && sumsB l T C (fnOf xs)) := by unfold truthB; rw [hf, hl, hlen]; simp
      have HTB := Lib.hid htb
      have HA := Lib.hid hA
      have HO := Lib.hid hok
      have HL := Lib.hid hl
      have hlb : ((n : Int) != (n : Int)) = false := by simp
      have HLEN := Lib.hid hlen
      rw [hlen]
      clear hB hA hl hok hf htb htx hlen
      go_enter Try.func21, Try.ntmps21
      go_wp2_with fail
      refine hck.out.mono ?_
      rintro e w1 ⟨rfl, hb1⟩
      have hB1 : Below w.heap.size w w1 := HB.out.trans (hb1.mono HB.out.size)
      have n1 := (hb1.block w.heap.size (by simp)).trans n0.out
      have c0 : w1.cell? ⟨w.heap.size, 0, none⟩ = some (.slice (some ⟨b, o, none⟩) n cap) := by simp [World.cell?, n1]
      have c1 : w1.cell? ⟨w.heap.size, 1, none⟩ = some (.int .i64 T) := by simp [World.cell?, n1]
      have c2 : w1.cell? ⟨w.heap.size, 2, none⟩ = some (.int .i64 C) := by simp [World.cell?, n1]
      have lw1 : w.heap.size < w1.heap.size := World.block_lt_of_cell? w1 _ c0
      have HB1 := Lib.hid hB1
      have N1 := Lib.hid n1
      clear hb1 hB1 n1 hck n0 HB
      have hpos : 0 < n := by rw [← HL.out]; exact HO.out.pos
      obtain ⟨b2, o2, rfl, htc⟩ := HTX.out.resolve_left (fun h => by have := HLEN.out; rw [h] at this; simp at this; omega)
      have hTB : ∀ X, Below w.heap.size w X → ∀ j : Nat, j < n → X.cell? ⟨b2, o2 + j, none⟩ = some (.int .i64 (fnOf xs j)) := fun X hX j hj => by
        have hj' : j < xs.length := by rw [HLEN.out]; exact hj
        have := htc j hj'
        rw [fnOf_at hj']
        exact (hX.cell (p := ⟨b2, o2 + j, none⟩) (World.block_lt_of_cell? w _ this)).trans this
      have HTC := Lib.hid hTB
      clear htc hTB
      have hs0 : GiveAt (w1.alloc (.cells zeros13 107)) w1.heap.size 107 (fun _ => 0) := ⟨zeros13, heap_new_at _ _ _ rfl, rfl, fun i hi => zeros13_at i hi⟩
      have hB2 : Below w.heap.size w (w1.alloc (.cells zeros13 107)) := HB1.out.alloc HB1.out.size _
      have n2 : (w1.alloc (.cells zeros13 107)).heap[w.heap.size]? = some (.cells #[.slice (some ⟨b, o, none⟩) n cap, .int .i64 T, .int .i64 C] 33 (0, 0)) := (Below.heap_alloc _ _ _ lw1).trans N1.out
      have hr := rooms_any b o n cap T C l err (.slice none 0 0) [] (w1.alloc (.cells zeros13 107)) HL.out HO.out (HA.out.keep hB2 (Nat.le_refl _)) he0 he1 (IntsAt.nil _) (by simp)
      have HS0 := Lib.hid hs0
      have HB2 := Lib.hid hB2
      have N2 := Lib.hid n2
      have HR := Lib.hid hr
      clear hs0 hB2 n2 hr
      unfold zeros13 at HS0 HB2 N2 HR
      go_wp2_with fail
      refine HR.out.mono ?_
      rintro e w2 ⟨rs, rfl, hrs, hb2⟩
      have hS2 := HS0.out.of_block (hb2.block _ (by simp))
      have hN2 := (hb2.block _ (by simp; omega)).trans N2.out
      have hB3 : Below w.heap.size w w2 := HB2.out.trans (hb2.mono HB2.out.size)
      obtain ⟨Bs, hBs⟩ : ∃ Bs, w1.heap.size = Bs := ⟨_, rfl⟩
      obtain ⟨Bn, hBn⟩ : ∃ Bn, w.heap.size = Bn := ⟨_, rfl⟩
      have o1 : w.heap.size ≤ Bn := by omega
      have o2' : Bn < Bs := by omega
      rw [hBs] at hS2 ⊢
      rw [hBn] at hN2 ⊢
      have HS2 := Lib.hid hS2
      have HN2 := Lib.hid hN2
      have HB3 := Lib.hid hB3
      have HRS := Lib.hid hrs
      clear hS2 hN2 hB3 hrs hb2 HS0 HB2 N2 HR hBs hBn c0 c1 c2 lw1 N1 HB1
      go_wp2_with fail
      go_loopw [28] (PRel l err n (fnOf xs) w Bn Bs (.cells #[.slice (some ⟨b, o, none⟩) n cap, .int .i64 T, .int .i64 C] 33 (0, 0))) (fun i _ => 12 - (intOf i).toNat)
      case atStart => exact ⟨0, by omega, rfl, rfl, HS2.out.congr (fun i _ => rfl), HN2.out, HB3.out⟩
      case round =>
        clear HS2 HN2 HB3
        obtain ⟨k, hk, rfl, hro, hS, hN, hBe⟩ := hrel
        by_cases hlt : k < n
        · have hlt' : decide ((k : Int) < 12) = true := by simp; omega
          have hge' : decide ((n : Int) ≤ (k : Int)) = false := by simp; omega
          have hix := run_index_rooms HRS.out (k := k) (by omega)
          have hlk : k < l.length := by rw [HL.out]; exact hlt
          have HRO := Lib.hid hro
          have HS := Lib.hid hS
          have HN := Lib.hid hN
          have HBe := Lib.hid hBe
          clear hro hS hN hBe
          obtain ⟨L, hL⟩ : ∃ L, roomLo l err [] k = L := ⟨_, rfl⟩
          obtain ⟨H, hH⟩ : ∃ H, roomHi l err [] k = H := ⟨_, rfl⟩
          obtain ⟨X, hX⟩ : ∃ X, fnOf xs k = X := ⟨_, rfl⟩
          rw [hL, hH] at hix
          have HL2 := Lib.hid hL
          have HH2 := Lib.hid hH
          have HX2 := Lib.hid hX
          clear hL hH hX
          go_wp2_with fail
          have hb3 : Below wr.heap.size wr (wr.alloc (.cells #[.int .i64 L, .int .i64 H] 58)) := (Below.refl _ _).alloc (Nat.le_refl _) _
          have hnew := Go.heap_alloc_new wr (.cells #[.int .i64 L, .int .i64 H] 58)
          generalize wr.alloc (.cells #[.int .i64 L, .int .i64 H] 58) = w3 at hb3 hnew ⊢
          obtain ⟨Br, hBr⟩ : ∃ Br, wr.heap.size = Br := ⟨_, rfl⟩
          have r0 : w3.cell? ⟨wr.heap.size, 0, none⟩ = some (.int .i64 L) := by simp [World.cell?, hnew]
          have r1 : w3.cell? ⟨wr.heap.size, 1, none⟩ = some (.int .i64 H) := by simp [World.cell?, hnew]
          have hS3 := HS.out.of_block (hb3.block Bs HS.out.lt)
          have hN3 := (hb3.block Bn (Array.getElem?_eq_some_iff.1 HN.out).1).trans HN.out
          have hB3 : Below w.heap.size w w3 := HBe.out.trans (hb3.mono HBe.out.size)
          have t0 := HTC.out w3 hB3 k hlt
          rw [HX2.out] at t0
          rw [hBr] at r0 r1 ⊢
          have HS3 := Lib.hid hS3
          have HN3 := Lib.hid hN3
          have HB3 := Lib.hid hB3
          have i1 : (0 : Int) ≤ (k : Int) := by omega
          have i2 : (k : Int) < (n : Int) := by omega
          clear hS3 hN3 hB3 hb3 hnew HS HN HBe hBr hix
          cases hin : inB X L H with
          | false =>
            have hrf : roomsB l err (fnOf xs) n = false := roomsB_false hlt (by rw [HL2.out, HH2.out, HX2.out]; exact hin)
            have HRF := Lib.hid hrf
            clear hrf
            go_region_held3 (fun Y => Y.cell? ⟨Br, 0, none⟩ = some (.int .i64 L) ∧ Y.cell? ⟨Br, 1, none⟩ = some (.int .i64 H) ∧ Y.cell? ⟨b2, o2 + k, none⟩ = some (.int .i64 X)) (go_keep) (first | (go_at_call 68; refine (within_b X L H _).mono ?_; rintro e w' ⟨rfl, rfl⟩))
            go_wp2_with fail
            go_ret
            exact ⟨by rw [HTB.out, HRF.out]; rfl, HB3.out.drew⟩
          | true =>
            have hin2 := inB_true.1 hin
            have hrs1 : roomsB l err (fnOf xs) (k + 1) = true := by rw [roomsB_succ, HRO.out, HL2.out, HH2.out, HX2.out, hin]; rfl
            have hrk := rooms_ok HO.out he0 []
            have hx0 : 0 ≤ X ∧ X ≤ 40 := by
              have a1 := hrk.lo0 k hlk
              have a2 := hrk.hi1 k hlk
              rw [HL2.out] at a1
              rw [HH2.out] at a2
              omega
            have HRS1 := Lib.hid hrs1
            go_region_held3 (fun Y => Y.cell? ⟨Br, 0, none⟩ = some (.int .i64 L) ∧ Y.cell? ⟨Br, 1, none⟩ = some (.int .i64 H) ∧ Y.cell? ⟨b2, o2 + k, none⟩ = some (.int .i64 X)) (go_keep) (first | (go_at_call 68; refine (within_b X L H _).mono ?_; rintro e w' ⟨rfl, rfl⟩))
            have hS4 := HS3.out.of_block (W' := w3.drew) rfl
            have hN4 : w3.drew.heap[Bn]? = some (.cells #[.slice (some ⟨b, o, none⟩) n cap, .int .i64 T, .int .i64 C] 33 (0, 0)) := HN3.out
            have hB4 : Below w.heap.size w w3.drew := HB3.out.drew
            clear hrs1 hin2 hin r0 r1 t0 HS3 HN3 HB3
            generalize w3.drew = w4 at hS4 hN4 hB4 ⊢
            have hAw := HA.out.keep hB4 (Nat.le_refl _)
            obtain ⟨b', o', hAe, hAs⟩ := hAw.resolve_left (fun h => by rw [h] at hlk; simp at hlk)
            obtain ⟨rfl, rfl⟩ : b = b' ∧ o = o' := by simpa using hAe
            have hak := hAs k hlk
            have han := HO.out.ang l[k] (List.getElem_mem hlk)
            have ht1 := HO.out.t1
            have hc1 := HO.out.c1
            have harc := arc_any b o n cap T C k l[k] w4 hlt (by omega) hak (by omega) (by omega) (by omega) (by omega)
            rw [← frL_at hlk, ← toL_at hlk] at harc
            have hfr := HO.out.fr hlk
            have hto := HO.out.to hlk
            obtain ⟨p, hp⟩ : ∃ p : Nat, frL l k = p := ⟨(frL l k).toNat, by omega⟩
            obtain ⟨q, hq⟩ : ∃ q : Nat, toL l k = q := ⟨(toL l k).toNat, by omega⟩
            rw [hp, hq] at harc
            have hp10 : p ≤ 10 := by omega
            have hq10 : q ≤ 10 := by omega
            have HP := Lib.hid hp
            have HQ := Lib.hid hq
            have HARC := Lib.hid harc
            have c0 : w4.cell? ⟨Bn, 0, none⟩ = some (.slice (some ⟨b, o, none⟩) n cap) := by simp [World.cell?, hN4]
            have c1 : w4.cell? ⟨Bn, 1, none⟩ = some (.int .i64 T) := by simp [World.cell?, hN4]
            have c2 : w4.cell? ⟨Bn, 2, none⟩ = some (.int .i64 C) := by simp [World.cell?, hN4]
            have HS4 := Lib.hid hS4
            have HN4 := Lib.hid hN4
            have HB4 := Lib.hid hB4
            have hbd := sumsP_bd l (fnOf xs)
            clear hfr hto hp hq harc hS4 hN4 hB4 hak han hAs hAe hAw
            have hxall : ∀ i : Nat, i < k → 0 ≤ fnOf xs i ∧ fnOf xs i ≤ 40 := fun i hi => by
              have h1 : inB (fnOf xs i) (roomLo l err [] i) (roomHi l err [] i) = true := by
                have := HRO.out
                unfold roomsB at this
                exact List.all_eq_true.1 this i (List.mem_range.2 hi)
              have h2 := inB_true.1 h1
              have a1 := hrk.lo0 i (by omega)
              have a2 := hrk.hi1 i (by omega)
              omega
            have hbp := hbd p k hxall
            have hbq := hbd q k hxall
            clear hbd hxall hrk
            go_wp2_with (go_at_call 69; refine HARC.out.mono ?_; rintro e w5 ⟨rfl, hb5⟩)
            have hb6 : Below w4.heap.size w4 (w5.alloc (.cells #[.int .i64 p, .int .i64 q, .int .i64 k] 112)) := hb5.alloc hb5.size _
            have hblk := Go.heap_alloc_new w5 (.cells #[.int .i64 p, .int .i64 q, .int .i64 k] 112)
            have lS := HS4.out.lt
            have hs5 := hb5.size
            generalize w5.alloc (.cells #[.int .i64 p, .int .i64 q, .int .i64 k] 112) = w6 at hb6 hblk ⊢
            obtain ⟨Ba, hBa⟩ : ∃ Ba, w5.heap.size = Ba := ⟨_, rfl⟩
            rw [hBa] at hblk hs5 ⊢
            have hne : Ba ≠ Bs := by omega
            have hS6 := HS4.out.of_block (hb6.block Bs lS)
            have hN6 := (hb6.block Bn (Array.getElem?_eq_some_iff.1 HN4.out).1).trans HN4.out
            have hB6 : Below w.heap.size w w6 := HB4.out.trans (hb6.mono HB4.out.size)
            have t0 := HTC.out w6 hB6 k hlt
            rw [HX2.out] at t0
            have hb2l : b2 < w.heap.size := by
              have hj' : k < xs.length := by rw [HLEN.out]; exact hlt
              have := HTC.out w (Below.refl _ _) k hlt
              exact World.block_lt_of_cell? w _ this
            have HBLK := Lib.hid hblk
            have HS6 := Lib.hid hS6
            have HN6 := Lib.hid hN6
            have HB6 := Lib.hid hB6
            clear hblk hS6 hN6 hB6 hb6 hb5 hBa HS4 HN4 HB4 c0 c1 c2 hs5 lS HARC
            have a0 : w6.cell? ⟨Ba, 0, none⟩ = some (.int .i64 p) := by simp [World.cell?, HBLK.out]
            have a1 : w6.cell? ⟨Ba, 1, none⟩ = some (.int .i64 q) := by simp [World.cell?, HBLK.out]
            have g0 := HS6.out.cell (i := p) (by omega)
            have z0 := HS6.out.frozen p
            obtain ⟨G, hG⟩ : ∃ G, sumsP l (fnOf xs) k p = G := ⟨_, rfl⟩
            rw [hG] at g0 hbp
            have HG := Lib.hid hG
            have i3 : (0 : Int) ≤ (p : Int) := by omega
            have i4 : (p : Int) < 13 := by omega
            have wp1 : IntKind.i64.wrap (G + X) = G + X := IntWalk.i64_in _ (by omega)
            clear hG
            go_region
            have hs7 : ∀ j, j ≠ Bs → (w6.setCell ⟨Bs, p, none⟩ (.int .i64 (G + X))).drew.heap[j]? = w6.heap[j]? := fun j hj => Below.heap_setCell _ _ _ _ hj
            have hS7 := (HS6.out.set (v := p) (G + X) (by omega)).of_block (W' := (w6.setCell ⟨Bs, p, none⟩ (.int .i64 (G + X))).drew) rfl
            have hN7 := (hs7 Bn (by omega)).trans HN6.out
            have hK7 := (hs7 Ba hne).trans HBLK.out
            have hB7 : Below w.heap.size w (w6.setCell ⟨Bs, p, none⟩ (.int .i64 (G + X))).drew := (HB6.out.setCell (by simp; omega) _).drew
            clear hs7
            generalize (w6.setCell ⟨Bs, p, none⟩ (.int .i64 (G + X))).drew = w7 at hS7 hN7 hK7 hB7 ⊢
            obtain ⟨g3, hg3⟩ : ∃ g3, updG (sumsP l (fnOf xs) k) p (G + X) = g3 := ⟨_, rfl⟩
            rw [hg3] at hS7
            have t1 := HTC.out w7 hB7 k hlt
            rw [HX2.out] at t1
            have e0 : w7.cell? ⟨Ba, 0, none⟩ = some (.int .i64 p) := by simp [World.cell?, hK7]
            have e1 : w7.cell? ⟨Ba, 1, none⟩ = some (.int .i64 q) := by simp [World.cell?, hK7]
            have g1 := hS7.cell (i := q) (by omega)
            have z1 := hS7.frozen q
            have hbq2 : 0 ≤ g3 q ∧ g3 q ≤ 2000 := by rw [← hg3]; unfold updG; split <;> omega
            have HG3 := Lib.hid hg3
            have HS7 := Lib.hid hS7
            have HN7 := Lib.hid hN7
            have HB7 := Lib.hid hB7
            clear hg3 hS7 hN7 hK7 hB7 a0 a1 g0 z0 t0 wp1 hbp hbq HS6 HN6 HB6 HBLK
            have i5 : (0 : Int) ≤ (q : Int) := by omega
            have i6 : (q : Int) < 13 := by omega
            have wp1 : IntKind.i64.wrap (g3 q + X) = g3 q + X := IntWalk.i64_in _ (by omega)
            go_wp2_with fail
            go_region
            have hs8 : ∀ j, j ≠ Bs → (w7.setCell ⟨Bs, q, none⟩ (.int .i64 (g3 q + X))).drew.heap[j]? = w7.heap[j]? := fun j hj => Below.heap_setCell _ _ _ _ hj
            have hS8 := (HS7.out.set (v := q) (g3 q + X) (by omega)).of_block (W' := (w7.setCell ⟨Bs, q, none⟩ (.int .i64 (g3 q + X))).drew) rfl
            have hN8 := (hs8 Bn (by omega)).trans HN7.out
            have hB8 : Below w.heap.size w (w7.setCell ⟨Bs, q, none⟩ (.int .i64 (g3 q + X))).drew := (HB7.out.setCell (by simp; omega) _).drew
            clear hs8
            generalize (w7.setCell ⟨Bs, q, none⟩ (.int .i64 (g3 q + X))).drew = w8 at hS8 hN8 hB8 ⊢
            have hS9 : GiveAt w8 Bs 107 (sumsP l (fnOf xs) (k + 1)) := hS8.congr (fun i _ => by rw [sumsP_step l (fnOf xs) k p q X HP.out HQ.out HX2.out, HG.out, HG3.out])
            have HS9 := Lib.hid hS9
            have HN8 := Lib.hid hN8
            have HB8 := Lib.hid hB8
            clear hS8 hS9 hN8 hB8 t1 e0 e1 g1 z1 wp1 HS7 HN7 HB7
            go_wp2_with fail
            go_roundw
            case rel => exact ⟨k + 1, by omega, by go_num, HRS1.out, HS9.out, HN8.out, HB8.out⟩
            case measure => simp [intOf]; omega
        · obtain rfl : k = n := by omega
          have ht0 := HO.out.t0
          have ht1 := HO.out.t1
          have hc0 := HO.out.c0
          have hc1 := HO.out.c1
          have HRO := Lib.hid hro
          clear hro
          by_cases h12 : k < 12
          · have hlt' : decide ((k : Int) < 12) = true := by simp; omega
            have hge' : decide ((k : Int) ≤ (k : Int)) = true := by simp
            have hix := run_index_rooms HRS.out (k := k) (by omega)
            obtain ⟨L, hL⟩ : ∃ L, roomLo l err [] k = L := ⟨_, rfl⟩
            obtain ⟨H, hH⟩ : ∃ H, roomHi l err [] k = H := ⟨_, rfl⟩
            rw [hL, hH] at hix
            clear hL hH
            obtain ⟨wz, hwz⟩ : ∃ wz, wr.alloc (.cells #[.int .i64 L, .int .i64 H] 58) = wz := ⟨_, rfl⟩
            have hbz : Below wr.heap.size wr wz := by rw [← hwz]; exact (Below.refl _ _).alloc (Nat.le_refl _) _
            have hSz := hS.of_block (hbz.block Bs hS.lt)
            have hNz := (hbz.block Bn (Array.getElem?_eq_some_iff.1 hN).1).trans hN
            have hBz : Below w.heap.size w wz := hBe.trans (hbz.mono hBe.size)
            have r1 : (wr.alloc (.cells #[.int .i64 L, .int .i64 H] 58)).cell? ⟨Bn, 1, none⟩ = some (.int .i64 T) := by rw [hwz]; simp [World.cell?, hNz]
            have lBn : Bn < wr.heap.size := (Array.getElem?_eq_some_iff.1 hN).1
            have r2 : wr.cell? ⟨Bn, 1, none⟩ = some (.int .i64 T) := by simp [World.cell?, hN]
            have HWZ := Lib.hid hwz
            clear hS hN hBe hbz hwz
            go_wp2_with fail
            rw [HWZ.out]
            clear r1 r2 lBn

            have q1 : wz.cell? ⟨Bn, 1, none⟩ = some (.int .i64 T) := by simp [World.cell?, hNz]
            have q2 : wz.cell? ⟨Bn, 2, none⟩ = some (.int .i64 C) := by simp [World.cell?, hNz]
            have HSz := Lib.hid hSz
            have HBz := Lib.hid hBz
            clear hNz hSz hBz
            go_wp2_with fail
            go_loop [72] (fun i => ∃ t : Nat, (t : Int) ≤ T ∧ i = .int .i64 t ∧ ∀ j : Nat, j < t → sumsP l (fnOf xs) k j = 36) (fun i => T.toNat - (intOf i).toNat)
            case atStart => exact ⟨0, by omega, rfl, fun j h => by omega⟩
            case round =>
              obtain ⟨t, ht, rfl, hall⟩ := hrel
              have HALL := Lib.hid hall
              clear hall
              by_cases htT : (t : Int) < T
              · have htT' : decide ((t : Int) < T) = true := by simpa using htT
                have g0 := HSz.out.cell (i := t) (by omega)
                obtain ⟨G, hG⟩ : ∃ G, sumsP l (fnOf xs) k t = G := ⟨_, rfl⟩
                rw [hG] at g0
                have HG := Lib.hid hG
                clear hG
                have j0 : (t : Int) < 13 := by omega
                by_cases hg : G = 36
                · subst hg
                  have hgb : ((36 : Int) != 36) = false := by simp
                  go_wp2_with fail
                  go_round
                  case rel => exact ⟨t + 1, by omega, by go_num, fun j hj => by
                    by_cases e : j = t
                    · rw [e]; exact HG.out
                    · exact HALL.out j (by omega)⟩
                  case measure => simp [intOf]; omega
                · have hgb : (G != 36) = true := by simpa using hg
                  have hsf : sumsB l T C (fnOf xs) = false := sumsB_t (by rw [HL.out]) (t := t) (by omega) (by rw [HG.out]; exact hg)
                  have HSF := Lib.hid hsf
                  clear hsf
                  go_wp2_with fail
                  go_ret
                  exact ⟨by rw [HTB.out, HSF.out, Bool.and_false]; rfl, HBz.out⟩
              · have htT' : decide ((t : Int) < T) = false := by simpa using htT
                go_wp2_with fail
                go_loop [82] (fun i => ∃ c : Nat, (c : Int) ≤ C ∧ i = .int .i64 c ∧ ∀ j : Nat, j < c → sumsP l (fnOf xs) k (5 + j) = 72) (fun i => C.toNat - (intOf i).toNat)
                case atStart => exact ⟨0, by omega, rfl, fun j h => by omega⟩
                case round =>
                  obtain ⟨c, hc, rfl, hall⟩ := hrel
                  have HALL2 := Lib.hid hall
                  clear hall
                  by_cases hcC : (c : Int) < C
                  · have hcC' : decide ((c : Int) < C) = true := by simpa using hcC
                    have g0 := HSz.out.cell (i := 5 + c) (by omega)
                    rw [show (((5 + c : Nat)) : Int) = 5 + (c : Int) by omega] at g0
                    obtain ⟨G, hG⟩ : ∃ G, sumsP l (fnOf xs) k (5 + c) = G := ⟨_, rfl⟩
                    rw [hG] at g0
                    have HG := Lib.hid hG
                    clear hG
                    have j0 : (c : Int) < 8 := by omega
                    by_cases hg : G = 72
                    · subst hg
                      have hgb : ((72 : Int) != 72) = false := by simp
                      go_wp2_with fail
                      go_round
                      case rel => exact ⟨c + 1, by omega, by go_num, fun j hj => by
                        by_cases e : j = c
                        · rw [e]; exact HG.out
                        · exact HALL2.out j (by omega)⟩
                      case measure => simp [intOf]; omega
                    · have hgb : (G != 72) = true := by simpa using hg
                      have hsf : sumsB l T C (fnOf xs) = false := sumsB_c (by rw [HL.out]) (c := c) (by omega) (by rw [HG.out]; exact hg)
                      have HSF := Lib.hid hsf
                      clear hsf
                      go_wp2_with fail
                      go_ret
                      exact ⟨by rw [HTB.out, HSF.out, Bool.and_false]; rfl, HBz.out⟩
                  · have hcC' : decide ((c : Int) < C) = false := by simpa using hcC
                    have hst : sumsB l T C (fnOf xs) = true := sumsB_all (by rw [HL.out]) (fun j hj => HALL.out j (by omega)) (fun j hj => HALL2.out j (by omega))
                    have HST := Lib.hid hst
                    clear hst
                    go_wp2_with fail
                    go_ret
                    exact ⟨by rw [HTB.out, HST.out, HRO.out]; rfl, HBz.out⟩
          · have hlt' : decide ((k : Int) < 12) = false := by simp; omega
            obtain ⟨wz, rfl⟩ : ∃ wz : World, wz = wr := ⟨_, rfl⟩
            have hSz := hS
            have hNz := hN
            have hBz := hBe
            have r2 : wz.cell? ⟨Bn, 1, none⟩ = some (.int .i64 T) := by simp [World.cell?, hN]
            clear hS hN hBe
            go_wp2_with fail
            clear r2

            have q1 : wz.cell? ⟨Bn, 1, none⟩ = some (.int .i64 T) := by simp [World.cell?, hNz]
            have q2 : wz.cell? ⟨Bn, 2, none⟩ = some (.int .i64 C) := by simp [World.cell?, hNz]
            have HSz := Lib.hid hSz
            have HBz := Lib.hid hBz
            clear hNz hSz hBz
            go_wp2_with fail
            go_loop [72] (fun i => ∃ t : Nat, (t : Int) ≤ T ∧ i = .int .i64 t ∧ ∀ j : Nat, j < t → sumsP l (fnOf xs) k j = 36) (fun i => T.toNat - (intOf i).toNat)
            case atStart => exact ⟨0, by omega, rfl, fun j h => by omega⟩
            case round =>
              obtain ⟨t, ht, rfl, hall⟩ := hrel
              have HALL := Lib.hid hall
              clear hall
              by_cases htT : (t : Int) < T
              · have htT' : decide ((t : Int) < T) = true := by simpa using htT
                have g0 := HSz.out.cell (i := t) (by omega)
                obtain ⟨G, hG⟩ : ∃ G, sumsP l (fnOf xs) k t = G := ⟨_, rfl⟩
                rw [hG] at g0
                have HG := Lib.hid hG
                clear hG
                have j0 : (t : Int) < 13 := by omega
                by_cases hg : G = 36
                · subst hg
                  have hgb : ((36 : Int) != 36) = false := by simp
                  go_wp2_with fail
                  go_round
                  case rel => exact ⟨t + 1, by omega, by go_num, fun j hj => by
                    by_cases e : j = t
                    · rw [e]; exact HG.out
                    · exact HALL.out j (by omega)⟩
                  case measure => simp [intOf]; omega
                · have hgb : (G != 36) = true := by simpa using hg
                  have hsf : sumsB l T C (fnOf xs) = false := sumsB_t (by rw [HL.out]) (t := t) (by omega) (by rw [HG.out]; exact hg)
                  have HSF := Lib.hid hsf
                  clear hsf
                  go_wp2_with fail
                  go_ret
                  exact ⟨by rw [HTB.out, HSF.out, Bool.and_false]; rfl, HBz.out⟩
              · have htT' : decide ((t : Int) < T) = false := by simpa using htT
                go_wp2_with fail
                go_loop [82] (fun i => ∃ c : Nat, (c : Int) ≤ C ∧ i = .int .i64 c ∧ ∀ j : Nat, j < c → sumsP l (fnOf xs) k (5 + j) = 72) (fun i => C.toNat - (intOf i).toNat)
                case atStart => exact ⟨0, by omega, rfl, fun j h => by omega⟩
                case round =>
                  obtain ⟨c, hc, rfl, hall⟩ := hrel
                  have HALL2 := Lib.hid hall
                  clear hall
                  by_cases hcC : (c : Int) < C
                  · have hcC' : decide ((c : Int) < C) = true := by simpa using hcC
                    have g0 := HSz.out.cell (i := 5 + c) (by omega)
                    rw [show (((5 + c : Nat)) : Int) = 5 + (c : Int) by omega] at g0
                    obtain ⟨G, hG⟩ : ∃ G, sumsP l (fnOf xs) k (5 + c) = G := ⟨_, rfl⟩
                    rw [hG] at g0
                    have HG := Lib.hid hG
                    clear hG
                    have j0 : (c : Int) < 8 := by omega
                    by_cases hg : G = 72
                    · subst hg
                      have hgb : ((72 : Int) != 72) = false := by simp
                      go_wp2_with fail
                      go_round
                      case rel => exact ⟨c + 1, by omega, by go_num, fun j hj => by
                        by_cases e : j = c
                        · rw [e]; exact HG.out
                        · exact HALL2.out j (by omega)⟩
                      case measure => simp [intOf]; omega
                    · have hgb : (G != 72) = true := by simpa using hg
                      have hsf : sumsB l T C (fnOf xs) = false := sumsB_c (by rw [HL.out]) (c := c) (by omega) (by rw [HG.out]; exact hg)
                      have HSF := Lib.hid hsf
                      clear hsf
                      go_wp2_with fail
                      go_ret
                      exact ⟨by rw [HTB.out, HSF.out, Bool.and_false]; rfl, HBz.out⟩
                  · have hcC' : decide ((c : Int) < C) = false := by simpa using hcC
                    have hst : sumsB l T C (fnOf xs) = true := sumsB_all (by rw [HL.out]) (fun j hj => HALL.out j (by omega)) (fun j hj => HALL2.out j (by omega))
                    have HST := Lib.hid hst
                    clear hst
                    go_wp2_with fail
                    go_ret
                    exact ⟨by rw [HTB.out, HST.out, HRO.out]; rfl, HBz.out⟩
    · have htb : truthB l T C err xs = false := by unfold truthB; rw [hf, hl]; simp [hlen]
      have HTB := Lib.hid htb
      have hlb : ((xs.length : Int) != (n : Int)) = true := by simp; omega
      clear hB hA hl hok hf htb htx hlen
      go_enter Try.func21, Try.ntmps21
      go_wp2_with fail
      refine hck.out.mono ?_
      rintro e w1 ⟨rfl, hb1⟩
      have hB1 : Below w.heap.size w w1 := HB.out.trans (hb1.mono HB.out.size)
      have n1 := (hb1.block w.heap.size (by simp)).trans n0.out
      have c0 : w1.cell? ⟨w.heap.size, 0, none⟩ = some (.slice (some ⟨b, o, none⟩) n cap) := by simp [World.cell?, n1]
      have HB1 := Lib.hid hB1
      clear hb1 hB1 n1 hck n0 HB
      go_wp2_with fail
      go_ret
      exact ⟨by rw [HTB.out]; rfl, HB1.out⟩
  · have htb : truthB l T C err xs = false := by unfold truthB; simp [hf]
    have HTB := Lib.hid htb
    have hne : (askedL l T C err != 0) = true := by simpa using hf
    clear hB hA hl hf htb htx
    go_enter Try.func21, Try.ntmps21
    go_wp2_with (go_at_call 66; refine hck.out.mono ?_; rintro e w' ⟨rfl, hb1⟩)
    go_ret
    exact ⟨by rw [HTB.out]; rfl, HB.out.trans (hb1.mono HB.out.size)⟩
end Go.Proofs.Ytkloaeaepjoijaa

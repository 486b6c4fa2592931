/-
  TopRead: the walk.
-/
import Derived.Test.YtkloaeaepjoijaaT10
import Derived.Test.YtkloaeaepjoijaaT12
import Derived.Test.YtkloaeaepjoijaaT14
set_option linter.all false
namespace Go.Proofs.Ytkloaeaepjoijaa
open Go.RowKit Go.WalkArith
theorem tmod_idx {n : Nat} {wh : Int} (h0 : 0 ≤ wh) (hn : 0 < n) : ∃ i : Nat, i < n ∧ wh.tmod (n : Int) = i ∧ wh % (n : Int) = i := by
  have h1 : wh.tmod (n : Int) = wh % (n : Int) := Int.tmod_eq_emod_of_nonneg h0
  have h2 := Int.emod_nonneg wh (by omega : (n : Int) ≠ 0)
  have h3 := Int.emod_lt_of_pos wh (by omega : 0 < (n : Int))
  rw [h1]
  generalize wh % (n : Int) = r at h2 h3 ⊢
  exact ⟨r.toNat, by omega, by omega, by omega⟩
theorem net_n (A : Option Addr) (n cap : Nat) (T C : Int) (l : List Ang) (w : World) (hl : l.length = n) (hA : AngsAt w A l) (hn : n ≤ 1000000) :
    Calls Try.prog 22 #[.agg #[.slice A n cap, .int .i64 T, .int .i64 C]] w fun e w' => ∃ A' cap', e = .returned (.agg #[.slice A' n cap', .int .i64 T, .int .i64 C]) ∧ AngsAt w' A' l ∧ Below w.heap.size w w' := by
  subst hl
  refine (net_any A cap T C l w hA hn).mono ?_
  rintro e w' ⟨A', c', rfl, h1, _, h2⟩
  exact ⟨A', c', rfl, h1, h2⟩
theorem intsN_dec (s t : List Nat) : decide (intsN t = intsN s) = decide (s = t) := by
  rw [decide_eq_decide]
  constructor
  · intro h
    have h2 := congrArg (List.map Int.toNat) h
    unfold intsN at h2
    rw [List.map_map, List.map_map] at h2
    have e : (Int.toNat ∘ fun (n : Nat) => (n : Int)) = id := by funext n; simp
    rw [e, List.map_id, List.map_id] at h2
    exact h2.symm
  · intro h; rw [h]
section
variable {w : World} {ops : Array Oper} {rest : List Oper} {o : Oper} {a : Act} {Q : Exit → Act → World → Prop}
set_option maxRecDepth 100000 in
/-- Numbers are appended to an empty row of the call's own, behind a guard. -/
theorem wpList_copy_g (hw : Region.wanted o (yielded ops a.tmps) = true) (s x : Operand) (ho : o.op = .call { callee := .builtin .append, args := #[s, x], argTypes := #[25, 25] }) (base : Nat) (v : Value) (hs : a.eval s = v) (hown : w.ownsRow base 3 1 v 0 [])
    (b q c : Nat) (xs : List Int) (hx : a.eval x = .slice (some ⟨b, q, none⟩) xs.length c) (hI : IntsAt w (.slice (some ⟨b, q, none⟩) xs.length c) xs) (hl : xs.length ≤ 1000) (hbase : base ≤ w.heap.size)
    (h : ∀ v' w', IntsAt w' v' xs → w.grownBy w' v.ownBlock → wpList Try.prog ops Q rest (a.put o.dst v') w') : wpList Try.prog ops Q (o :: rest) a w := by
  obtain ⟨i0, hi0, hz0, hz1, hz2⟩ := info_parts Try.info3
  refine wpList_step fun K hK => ?_
  rw [if_pos hw]
  refine wp_append_own w s x 25 ho base 3 i0 (.int .i64 0) 1 8 Try.underlying25 hi0 hz0 hz1 hz2 rfl (by decide) v 0 [] hs hown ⟨b, q, none⟩ xs.length c (xs.map (Value.int .i64)) hx (by simp) (ints_cells' hI) (fun u hu => by obtain ⟨y, _, rfl⟩ := List.mem_map.1 hu; rfl) (by unfold maxLen; omega) (by omega) hbase ?_
  intro v' w' h1 h2 _
  refine hK _ _ (h v' w' (IntsAt.of_own (base := base) (n := xs.length) (by simpa using h1)) h2)
end
/-- What has been gone through. -/
def TpRel (w0 : World) (ls : List (List Nat)) (sent : List Nat) (fo i : Value) (wr : World) : Prop :=
  ∃ m : Nat, m ≤ ls.length ∧ i = .int .i64 m ∧ fo = .bool (decide (sent ∈ ls.take m)) ∧ Below w0.heap.size w0 wr
set_option maxRecDepth 100000 in
set_option maxHeartbeats 8000000 in
theorem topread_walk (cA : Option Addr) (ccap : Nat) (cs : List ByteArray) (A0 : Option Addr) (cap0 : Nat) (ws : List Int) (er wh es : Int) (w : World) (hcA : StrsAt w cA cs) (hcn : cs.length ≤ 9223372036854775807) (hcz : ∀ j (h : j < cs.length), cs[j].size ≤ 9223372036854775807)
    (hW : WordsAt w (.slice A0 ws.length cap0) ws) (hn : ws.length ≤ 9223372036854775807) (he0 : 0 ≤ er) (he1 : er ≤ 255) (hw0 : 0 ≤ wh) (hw1 : wh ≤ 255) (hk0 : 0 ≤ es) (hk1 : es ≤ 255) :
    Calls Try.prog 10 #[.agg #[.slice cA cs.length ccap], .slice A0 ws.length cap0, .int .u8 er, .int .u8 wh, .int .u8 es] w fun e w' => e = .returned (.bool true) ∧ Below w.heap.size w w' := by
  have hb0 : Below w.heap.size w (w.alloc (.cells #[.slice cA cs.length ccap] 77)) := (Below.refl _ _).alloc (Nat.le_refl _) _
  have hn0 := Go.heap_alloc_new w (.cells #[.slice cA cs.length ccap] 77)
  have HCA := Lib.hid hcA
  have HCZ := Lib.hid hcz
  have HW := Lib.hid hW
  have HB0 := Lib.hid hb0
  clear hcA hcz hW hb0
  obtain ⟨i0, hi0', hz0', hz1', hz2'⟩ := info_parts Try.info71
  have hi0 := hi0'
  have hz0 := hz0'
  have hz1 := hz1'
  have hz2 := hz2'
  clear hi0' hz0' hz1' hz2'
  obtain ⟨e, hE⟩ : ∃ e, er % 6 = e := ⟨_, rfl⟩
  have e0 : 0 ≤ e ∧ e ≤ 5 := by omega
  go_enter Try.func10, Try.ntmps10
  go_upto_region 1 with fail
  generalize w.alloc (.cells #[.slice cA cs.length ccap] 77) = w0 at hn0 HB0 ⊢
  obtain ⟨Bc, hBc⟩ : ∃ B, w.heap.size = B := ⟨_, rfl⟩
  rw [hBc] at hn0 ⊢
  have HN0 := Lib.hid hn0
  have oBc : w.heap.size ≤ Bc := by omega
  clear hn0 hBc
  have hcl := Lib.hid (closed_any (.slice A0 ws.length cap0) ws e w0 (HW.out.keep HB0.out (Nat.le_refl _)) hn e0)
  go_wp2_with fail
  refine hcl.out.mono ?_
  rintro e' w1 ⟨hb, A, cap, T, C, vt, l, xs, rfl, hA, hI, ⟨gA, rfl⟩, hlen, hcl2⟩
  obtain ⟨Av, cv, rfl, _⟩ := id hI
  have HN1 := Lib.hid ((hb.block Bc (Array.getElem?_eq_some_iff.1 HN0.out).1).trans HN0.out)
  have HB1 := Lib.hid (HB0.out.trans (hb.mono HB0.out.size))
  have FA1 := Lib.hid hA
  have FI1 := Lib.hid hI
  have HCL2 := Lib.hid hcl2
  clear hb hA hI hlen hcl hcl2 HN0 HB0
  go_upto_region 3 with fail
  have hbx : Below w1.heap.size w1 (w1.alloc (.cells #[.slice (some ⟨gA, 0, none⟩) l.length cap, .int .i64 T, .int .i64 C] 24)) := (Below.refl _ _).alloc (Nat.le_refl _) _
  have hnx := Go.heap_alloc_new w1 (.cells #[.slice (some ⟨gA, 0, none⟩) l.length cap, .int .i64 T, .int .i64 C] 24)
  have HB2 := Lib.hid (HB1.out.trans (hbx.mono HB1.out.size))
  have FA2 := Lib.hid (FA1.out.keep hbx (Nat.le_refl _))
  have FI2 := Lib.hid (FI1.out.keep hbx (Nat.le_refl _))
  have HN2 := Lib.hid ((hbx.block Bc (Array.getElem?_eq_some_iff.1 HN1.out).1).trans HN1.out)
  obtain ⟨Bi, hBi⟩ : ∃ x, w1.heap.size = x := ⟨_, rfl⟩
  have oBi : Bc < Bi := by have := (Array.getElem?_eq_some_iff.1 HN1.out).1; omega
  rw [hBi] at hnx ⊢
  clear hbx hBi HB1 FA1 FI1 HN1
  generalize w1.alloc (.cells #[.slice (some ⟨gA, 0, none⟩) l.length cap, .int .i64 T, .int .i64 C] 24) = w2 at HB2 FA2 FI2 HN2 hnx ⊢
  have NI2 := Lib.hid hnx
  clear hnx
  have cc2 : w2.cell? ⟨Bc, 0, none⟩ = some (.slice cA cs.length ccap) := by simp only [World.cell?, HN2.out]; rfl
  have hthin := Lib.hid (thin2_any cA ccap cs w2 hcn (HCA.out.keep HB2.out (Nat.le_refl _)) HCZ.out)
  go_wp2_with fail
  refine hthin.out.mono ?_
  rintro e' w3 ⟨b1, rfl, hb1, hb⟩
  have HB3 := Lib.hid (HB2.out.trans (hb.mono HB2.out.size))
  have FA3 := Lib.hid (FA2.out.keep hb (Nat.le_refl _))
  have FI3 := Lib.hid (FI2.out.keep hb (Nat.le_refl _))
  have HN3 := Lib.hid ((hb.block Bc (Array.getElem?_eq_some_iff.1 HN2.out).1).trans HN2.out)
  have NI3 := Lib.hid ((hb.block Bi (Array.getElem?_eq_some_iff.1 NI2.out).1).trans NI2.out)
  have HT := Lib.hid hb1
  clear hb hb1 hthin cc2 HB2 FA2 FI2 HN2 NI2
  cases b1 with
  | false =>
    have HFB := Lib.hid (HB3.out)
    go_wp2_with fail
    refine (flashed_any _).mono ?_
    rintro e wz ⟨rfl, hbz⟩
    have HFZ := Lib.hid (HFB.out.trans (hbz.mono HFB.out.size))
    clear hbz
    go_wp2_with fail
    go_ret
    exact ⟨rfl, HFZ.out⟩
  | true =>
    have hth := HT.out rfl
    have cc3 : w3.cell? ⟨Bc, 0, none⟩ = some (.slice cA cs.length ccap) := by simp only [World.cell?, HN3.out]; rfl
    have hfa := Lib.hid (codeFault_any cA ccap cs w3 hth.1 (HCA.out.keep HB3.out (Nat.le_refl _)) hth.2)
    clear hth HT
    go_wp2_with fail
    refine hfa.out.mono ?_
    rintro e' w4 ⟨fv, rfl, hfv, hb⟩
    have HB4 := Lib.hid (HB3.out.trans (hb.mono HB3.out.size))
    have FA4 := Lib.hid (FA3.out.keep hb (Nat.le_refl _))
    have FI4 := Lib.hid (FI3.out.keep hb (Nat.le_refl _))
    have HN4 := Lib.hid ((hb.block Bc (Array.getElem?_eq_some_iff.1 HN3.out).1).trans HN3.out)
    have NI4 := Lib.hid ((hb.block Bi (Array.getElem?_eq_some_iff.1 NI3.out).1).trans NI3.out)
    have HFV := Lib.hid hfv
    clear hb hfv hfa cc3 HB3 FA3 FI3 HN3 NI3
    by_cases hf0 : fv = 0
    · subst hf0
      have HOK := Lib.hid (HFV.out rfl)
      have hc6 := HOK.out.six
      have cc4 : w4.cell? ⟨Bc, 0, none⟩ = some (.slice cA cs.length ccap) := by simp only [World.cell?, HN4.out]; rfl
      have i4 : w4.cell? ⟨Bi, 0, none⟩ = some (.slice (some ⟨gA, 0, none⟩) l.length cap) ∧ w4.cell? ⟨Bi, 1, none⟩ = some (.int .i64 T) ∧ w4.cell? ⟨Bi, 2, none⟩ = some (.int .i64 C) := blk3 NI4.out
      obtain ⟨i40, i41, i42⟩ := i4
      by_cases h3 : cs.length < 3
      · have h3' : decide ((cs.length : Int) < 3) = true := by simp; omega
        clear i40 i41 i42
        have HFB := Lib.hid (HB4.out)
        go_wp2_with fail
        refine (flashed_any _).mono ?_
        rintro e wz ⟨rfl, hbz⟩
        have HFZ := Lib.hid (HFB.out.trans (hbz.mono HFB.out.size))
        clear hbz
        go_wp2_with fail
        go_ret
        exact ⟨rfl, HFZ.out⟩
      · have h3' : decide ((cs.length : Int) < 3) = false := by simp; omega
        rcases HCL2.out with ⟨h13, hf3⟩ | ⟨hok, htb⟩
        · have hfr := refFault_any (some ⟨gA, 0, none⟩) l.length cap T C l w4 (by omega) rfl FA4.out
          rw [hf3] at hfr
          have HFR := Lib.hid hfr
          clear hfr hf3 h13
          go_wp2_with fail
          refine HFR.out.mono ?_
          rintro e' w5 ⟨rfl, hb⟩
          have HB5 := Lib.hid (HB4.out.trans (hb.mono HB4.out.size))
          clear hb HFR cc4 i40 i41 i42
          have HFB := Lib.hid (HB5.out)
          go_wp2_with fail
          refine (flashed_any _).mono ?_
          rintro e wz ⟨rfl, hbz⟩
          have HFZ := Lib.hid (HFB.out.trans (hbz.mono HFB.out.size))
          clear hbz
          go_wp2_with fail
          go_ret
          exact ⟨rfl, HFZ.out⟩
        · have hfr := refFault_any (some ⟨gA, 0, none⟩) l.length cap T C l w4 (by have := hok.len; omega) rfl FA4.out
          rw [faultL_zero.2 hok] at hfr
          have HFR := Lib.hid hfr
          have HO := Lib.hid hok
          have HTB := Lib.hid htb
          have hn12 := hok.len
          have hpos := hok.pos
          clear hfr hok htb
          go_wp2_with fail
          refine HFR.out.mono ?_
          rintro e' w5 ⟨rfl, hb⟩
          have HB5 := Lib.hid (HB4.out.trans (hb.mono HB4.out.size))
          have FA5 := Lib.hid (FA4.out.keep hb (Nat.le_refl _))
          have FI5 := Lib.hid (FI4.out.keep hb (Nat.le_refl _))
          have HN5 := Lib.hid ((hb.block Bc (Array.getElem?_eq_some_iff.1 HN4.out).1).trans HN4.out)
          have NI5 := Lib.hid ((hb.block Bi (Array.getElem?_eq_some_iff.1 NI4.out).1).trans NI4.out)
          clear hb HFR cc4 i40 i41 i42 HB4 FA4 FI4 HN4 NI4
          have cc5 : w5.cell? ⟨Bc, 0, none⟩ = some (.slice cA cs.length ccap) := by simp only [World.cell?, HN5.out]; rfl
          obtain ⟨i50, i51, i52⟩ := blk3 NI5.out
          obtain ⟨i, hi, hwi, hwi2⟩ := tmod_idx hw0 hpos
          have hl0 : (l.length : Int) ≠ 0 := by omega
          have i1 : (0 : Int) ≤ (i : Int) := by omega
          have i2 : (i : Int) < (l.length : Int) := by omega
          have hang := HO.out.ang l[i] (List.getElem_mem hi)
          obtain ⟨rn, hrn⟩ : ∃ r : Nat, l[i].r = (r : Int) := ⟨l[i].r.toNat, by omega⟩
          have hr40 : rn ≤ 40 := by omega
          have HRN := Lib.hid hrn
          have hAg : AngAt w5 gA (i * 4) l[i] := by
            rcases FA5.out with h | ⟨b, o, he, hc⟩
            · rw [h] at hpos; simp at hpos
            · cases he
              have := hc i hi
              rwa [Nat.zero_add] at this
          have x2 := hAg.2.2.1
          rw [hrn] at x2
          obtain ⟨k, hk⟩ : ∃ k : Nat, es % 4 = (k : Int) := ⟨(es % 4).toNat, by omega⟩
          have hk3 : k ≤ 3 := by omega
          have hkt : es.tmod 4 = (k : Int) := by rw [Int.tmod_eq_emod_of_nonneg hk0]; exact hk
          have hqu := Lib.hid (quartet_any rn cs.length w5 hr40 (by omega) hc6)
          clear hang hrn hAg
          go_wp2_with fail
          refine hqu.out.mono ?_
          rintro e' w6 ⟨vq, rfl, hq, hb⟩
          clear hqu i50 i51 i52 x2 cc5
          obtain ⟨sent, hsent⟩ : ∃ s, quN cs.length rn = s := ⟨_, rfl⟩
          have hs4 : sent.length = 4 := by rw [← hsent]; rfl
          have hsl : ∀ x ∈ sent, x < cs.length := by rw [← hsent]; exact quN_lt (by omega)
          have hsv : valN cs.length sent = rn := by rw [← hsent]; exact val_qu (by omega) hc6 hr40
          rw [hsent] at hq
          obtain ⟨Aq, cq, rfl⟩ := hq.sliceN
          have HB6 := Lib.hid (HB5.out.trans (hb.mono HB5.out.size))
          have FA6 := Lib.hid (FA5.out.keep hb (Nat.le_refl _))
          have FI6 := Lib.hid (FI5.out.keep hb (Nat.le_refl _))
          have FQ6 := Lib.hid hq
          have HN6 := Lib.hid ((hb.block Bc (Array.getElem?_eq_some_iff.1 HN5.out).1).trans HN5.out)
          have NI6 := Lib.hid ((hb.block Bi (Array.getElem?_eq_some_iff.1 NI5.out).1).trans NI5.out)
          have HS4 := Lib.hid hs4
          have HSL := Lib.hid hsl
          have HSV := Lib.hid hsv
          have hs4' : sent.length ≤ 5 := by omega
          have HC4 := Lib.hid (fun c hc => (HOK.out.letter c hc).2.1)
          have cc6 : w6.cell? ⟨Bc, 0, none⟩ = some (.slice cA cs.length ccap) := by simp only [World.cell?, HN6.out]; rfl
          have hsg := Lib.hid (signs_any cA ccap cs _ sent w6 (HCA.out.keep HB6.out (Nat.le_refl _)) hc6 HC4.out FQ6.out HSL.out hs4')
          clear hb hq hsent hs4 hsl hsv HB5 FA5 FI5 HN5 NI5
          go_wp2_with fail
          refine hsg.out.mono ?_
          rintro e' w7 ⟨S, rfl, hS, hb⟩
          have HB7 := Lib.hid (HB6.out.trans (hb.mono HB6.out.size))
          have FA7 := Lib.hid (FA6.out.keep hb (Nat.le_refl _))
          have FI7 := Lib.hid (FI6.out.keep hb (Nat.le_refl _))
          have FQ7 := Lib.hid (FQ6.out.keep hb (Nat.le_refl _))
          have HN7 := Lib.hid ((hb.block Bc (Array.getElem?_eq_some_iff.1 HN6.out).1).trans HN6.out)
          have NI7 := Lib.hid ((hb.block Bi (Array.getElem?_eq_some_iff.1 NI6.out).1).trans NI6.out)
          have hS100 : S.size ≤ 100 := by
            have h1 := congrArg List.length hS
            rw [nl_len] at h1
            have h2 := sgT_len (cs := cl cs) (fun c hc => by
              obtain ⟨s, hs, rfl⟩ := List.mem_map.1 hc
              rw [nl_len]; exact HC4.out s hs) sent []
            omega
          have HSS := Lib.hid hS
          have hmis := Lib.hid (misread_any S (.slice A0 ws.length cap0) ws k w7 hS100 hk3 (HW.out.keep HB7.out (Nat.le_refl _)) hn)
          clear hb hS hsg cc6 HB6 FA6 FI6 FQ6 HN6 NI6 hS100
          go_wp2_with fail
          refine hmis.out.mono ?_
          rintro e' w8 ⟨R, vs, c, rfl, hck, hex, hb⟩
          have HB8 := Lib.hid (HB7.out.trans (hb.mono HB7.out.size))
          have FA8 := Lib.hid (FA7.out.keep hb (Nat.le_refl _))
          have FI8 := Lib.hid (FI7.out.keep hb (Nat.le_refl _))
          have FQ8 := Lib.hid (FQ7.out.keep hb (Nat.le_refl _))
          have HN8 := Lib.hid ((hb.block Bc (Array.getElem?_eq_some_iff.1 HN7.out).1).trans HN7.out)
          have NI8 := Lib.hid ((hb.block Bi (Array.getElem?_eq_some_iff.1 NI7.out).1).trans NI7.out)
          rw [HSS.out] at hex
          have hsig : ∀ x ∈ nl R, x = 46 ∨ x = 45 ∨ x = 32 := ex_signs hex (sgT_signs (fun c' hc' x hx => by
            obtain ⟨s, hs, rfl⟩ := List.mem_map.1 hc'
            exact (HOK.out.letter s hs).2.2 x hx) sent [])
          have HSIG := Lib.hid hsig
          have HIN := Lib.hid (fun (L : Nat) (hL : 4 ≤ L) => texts_has (cs := cl cs) (rd := nl R) (e := (k : Int)) (c := c) (m := L) (by omega) (t := sent) (fun x hx => by rw [cl_len]; exact HSL.out x hx) (by have := HS4.out; omega) hex)
          clear hb hex hsig hmis HSS HB7 FA7 FI7 FQ7 HN7 NI7
          by_cases h40 : 40 < R.size
          · have h40' : decide ((40 : Int) < (R.size : Int)) = true := by simp; omega
            have HFB := Lib.hid (HB8.out)
            go_wp2_with fail
            refine (flashed_any _).mono ?_
            rintro e wz ⟨rfl, hbz⟩
            have HFZ := Lib.hid (HFB.out.trans (hbz.mono HFB.out.size))
            clear hbz
            go_wp2_with fail
            go_ret
            exact ⟨rfl, HFZ.out⟩
          · have h40' : decide ((40 : Int) < (R.size : Int)) = false := by simp; omega
            have cc8 : w8.cell? ⟨Bc, 0, none⟩ = some (.slice cA cs.length ccap) := by simp only [World.cell?, HN8.out]; rfl
            have hcv := Lib.hid (codeConv_any cA ccap cs w8 (HCA.out.keep HB8.out (Nat.le_refl _)) (by omega) (by omega))
            go_wp2_with fail
            refine hcv.out.mono ?_
            rintro e' w9 ⟨A9, cap9, rfl, hst9, hcap9, hb⟩
            have HB9 := Lib.hid (HB8.out.trans (hb.mono HB8.out.size))
            have FA9 := Lib.hid (FA8.out.keep hb (Nat.le_refl _))
            have FI9 := Lib.hid (FI8.out.keep hb (Nat.le_refl _))
            have FQ9 := Lib.hid (FQ8.out.keep hb (Nat.le_refl _))
            have HN9 := Lib.hid ((hb.block Bc (Array.getElem?_eq_some_iff.1 HN8.out).1).trans HN8.out)
            have NI9 := Lib.hid ((hb.block Bi (Array.getElem?_eq_some_iff.1 NI8.out).1).trans NI8.out)
            have htx := Lib.hid (Texts_any A9 cap9 cs R k 4 w9 hst9 hcap9 HOK.out (by omega) HSIG.out hk3 (by omega))
            clear hb hst9 hcv cc8 HB8 FA8 FI8 FQ8 HN8 NI8 hcap9
            go_wp2_with fail
            refine htx.out.mono ?_
            rintro e' w10 ⟨vl, rfl, hts, hb⟩
            have HB10 := Lib.hid (HB9.out.trans (hb.mono HB9.out.size))
            have FA10 := Lib.hid (FA9.out.keep hb (Nat.le_refl _))
            have FI10 := Lib.hid (FI9.out.keep hb (Nat.le_refl _))
            have FQ10 := Lib.hid (FQ9.out.keep hb (Nat.le_refl _))
            have HN10 := Lib.hid ((hb.block Bc (Array.getElem?_eq_some_iff.1 HN9.out).1).trans HN9.out)
            have NI10 := Lib.hid ((hb.block Bi (Array.getElem?_eq_some_iff.1 NI9.out).1).trans NI9.out)
            have HMEM := Lib.hid (fun t (ht : t ∈ textsL (cl cs) (nl R) (k : Int) 4) => textsL_mem ht)
            have HLN := Lib.hid (Nat.le_trans (show (textsL (cl cs) (nl R) (k : Int) 4).length ≤ 60000 from txN_len (by rw [cl_len]; exact hc6) (by omega)) (show 60000 ≤ 100000 by omega))
            have HIN4 := Lib.hid (HIN.out 4 (by omega))
            generalize textsL (cl cs) (nl R) (k : Int) 4 = ls at hts HMEM HLN HIN4
            obtain ⟨Al, capl, rfl, _⟩ := id hts
            have FT10 := Lib.hid hts
            have hln := HLN.out
            clear hb hts htx HIN HB9 FA9 FI9 FQ9 HN9 NI9
            go_wp2_with fail
            go_loopw [22, 23] (TpRel w10 ls sent) (fun _ i _ => ls.length - (intOf i).toNat)
            case atStart => exact ⟨0, by omega, rfl, by simp, Below.refl _ _⟩
            case round =>
              obtain ⟨m, hm, rfl, rfl, hbe⟩ := hrel
              have HBE := Lib.hid hbe
              have FT := Lib.hid FT10.out
              have FA := Lib.hid (FA10.out.keep hbe (Nat.le_refl _))
              have FI := Lib.hid (FI10.out.keep hbe (Nat.le_refl _))
              have FQ := Lib.hid (FQ10.out.keep hbe (Nat.le_refl _))
              have HN := Lib.hid ((hbe.block Bc (Array.getElem?_eq_some_iff.1 HN10.out).1).trans HN10.out)
              have NI := Lib.hid ((hbe.block Bi (Array.getElem?_eq_some_iff.1 NI10.out).1).trans NI10.out)
              have HBW := Lib.hid (HB10.out.trans (hbe.mono HB10.out.size))
              clear hbe
              by_cases hlt : m < ls.length
              · have hlt' : decide ((m : Int) < (ls.length : Int)) = true := by simpa using hlt
                obtain ⟨Al', capl', hel, hft⟩ := FT.out
                cases hel
                obtain ⟨bl, ol, rfl, hcs⟩ := hft.resolve_left (fun h => by rw [h] at hlt; simp at hlt)
                obtain ⟨u, cu, hu⟩ := hcs m hlt
                have hmem := HMEM.out ls[m] (List.getElem_mem hlt)
                have hstk : decide (sent ∈ ls.take (m + 1)) = (decide (sent ∈ ls.take m) || decide (sent = ls[m])) := by
                  rw [List.take_succ_eq_append_getElem hlt]
                  exact (decide_eq_decide.2 (by rw [List.mem_append, List.mem_singleton])).trans (Bool.decide_or _ _)
                obtain ⟨t, ht⟩ : ∃ t, ls[m] = t := ⟨_, rfl⟩
                rw [ht] at hu hmem hstk
                obtain ⟨fb, hfb⟩ : ∃ b, decide (sent ∈ ls.take m) = b := ⟨_, rfl⟩
                rw [hfb] at hstk ⊢
                rw [cl_len] at hmem
                obtain ⟨Au, cpu, rfl⟩ := hu.sliceN
                have HU10 := Lib.hid hu
                have CU10 := Lib.hid cu
                have HU := Lib.hid (hu.keep HBE.out (Nat.le_refl _))
                have cu := cell_later HBE.out cu
                have HSTK := Lib.hid hstk
                have ht4le := hmem.1
                have HTL := Lib.hid hmem.2
                have CU := Lib.hid cu
                have cc : wr.cell? ⟨Bc, 0, none⟩ = some (.slice cA cs.length ccap) := by simp only [World.cell?, HN.out]; rfl
                have CC := Lib.hid cc
                have m1 : (0 : Int) ≤ (m : Int) := by omega
                have m2 : (m : Int) < (ls.length : Int) := by omega
                clear hft hcs hmem hstk hu ht hfb cc
                by_cases h4 : t.length = 4
                · have h4' : ((t.length : Int) != 4) = false := by simp; omega
                  have H4 := Lib.hid h4
                  clear h4
                  go_upto_region 18 with fail
                  refine wp_region_held_drew (S := fun X => X.cell? ⟨bl, ol + m, none⟩ = some (.slice Au t.length cpu) ∧ X.cell? ⟨Bc, 0, none⟩ = some (.slice cA cs.length ccap)) (by kernel_rfl) (⟨CU.out, CC.out⟩) (fun hS0 => ?_)
                  refine wpAnyH_take (i := 0) (oi := { dst := some 105, op := Op.move (Operand.tmp 20), type := 84, pos := "top07w.go:53", after := #[], guard := none }) (v := ?_) rfl (by kernel_rfl) (by kernel_rfl) (by kernel_rfl) (fun _ _ _ h => h) (Or.inl ⟨by rfl, ?_⟩) hS0 ?_
                  rotate_left
                  · intro X hX
                    obtain ⟨x0, x1⟩ := hX
                    go_simp
                    try with_reducible rfl
                  simp only [Act.put, List.setIfInBounds_toArray, List.set_cons_zero, List.set_cons_succ, Array.toArray_toList]
                  refine wpAnyH_take (i := 1) (oi := { dst := some 106, op := Op.move (Operand.tmp 23), type := 3, pos := "top07w.go:53", after := #[], guard := none }) (v := ?_) rfl (by kernel_rfl) (by kernel_rfl) (by kernel_rfl) (fun _ _ _ h => h) (Or.inl ⟨by rfl, ?_⟩) hS0 ?_
                  rotate_left
                  · intro X hX
                    obtain ⟨x0, x1⟩ := hX
                    go_simp
                    try with_reducible rfl
                  simp only [Act.put, List.setIfInBounds_toArray, List.set_cons_zero, List.set_cons_succ, Array.toArray_toList]
                  refine wpAnyH_take (i := 2) (oi := { dst := some 107, op := Op.indexAddr 84 (Operand.tmp 105) (Operand.tmp 106), type := 0, pos := "top07w.go:53", after := #[{ on := 0, ground := Ground.data }, { on := 1, ground := Ground.data }], guard := none }) (v := ?_) rfl (by kernel_rfl) (by kernel_rfl) (by kernel_rfl) (fun _ _ _ h => h) (Or.inl ⟨by rfl, ?_⟩) hS0 ?_
                  rotate_left
                  · intro X hX
                    obtain ⟨x0, x1⟩ := hX
                    go_simp
                    try with_reducible rfl
                  simp only [Act.put, List.setIfInBounds_toArray, List.set_cons_zero, List.set_cons_succ, Array.toArray_toList]
                  refine wpAnyH_take (i := 3) (oi := { dst := some 108, op := Op.load 25 (Operand.tmp 107), type := 25, pos := "top07w.go:53", after := #[{ on := 2, ground := Ground.data }], guard := none }) (v := ?_) rfl (by kernel_rfl) (by kernel_rfl) (by kernel_rfl) (fun _ _ _ h => h) (Or.inl ⟨by rfl, ?_⟩) hS0 ?_
                  rotate_left
                  · intro X hX
                    obtain ⟨x0, x1⟩ := hX
                    go_simp
                    try with_reducible rfl
                  simp only [Act.put, List.setIfInBounds_toArray, List.set_cons_zero, List.set_cons_succ, Array.toArray_toList]
                  refine wpAnyH_take (i := 4) (oi := { dst := some 109, op := Op.call { callee := Callee.builtin Builtin.len, args := #[Operand.tmp 108], argTypes := #[25] }, type := 3, pos := "top07w.go:53", after := #[{ on := 3, ground := Ground.data }], guard := none }) (v := ?_) rfl (by kernel_rfl) (by kernel_rfl) (by kernel_rfl) (fun _ _ _ h => h) (Or.inl ⟨by rfl, ?_⟩) hS0 ?_
                  rotate_left
                  · intro X hX
                    obtain ⟨x0, x1⟩ := hX
                    go_simp
                    try with_reducible rfl
                  simp only [Act.put, List.setIfInBounds_toArray, List.set_cons_zero, List.set_cons_succ, Array.toArray_toList]
                  refine wpAnyH_take (i := 5) (oi := { dst := some 110, op := Op.binOp BinOp.neq 3 (Operand.tmp 109) (Operand.const (Value.int IntKind.i64 4)) 3, type := 4, pos := "top07w.go:53", after := #[{ on := 4, ground := Ground.data }], guard := none }) (v := ?_) rfl (by kernel_rfl) (by kernel_rfl) (by kernel_rfl) (fun _ _ _ h => h) (Or.inl ⟨by rfl, ?_⟩) hS0 ?_
                  rotate_left
                  · intro X hX
                    obtain ⟨x0, x1⟩ := hX
                    go_simp
                    try with_reducible rfl
                  simp only [Act.put, List.setIfInBounds_toArray, List.set_cons_zero, List.set_cons_succ, Array.toArray_toList]
                  refine wpAnyH_take (i := 6) (oi := { dst := some 111, op := Op.move (Operand.tmp 110), type := 4, pos := "top07w.go:53", after := #[{ on := 5, ground := Ground.data }], guard := none }) (v := ?_) rfl (by kernel_rfl) (by kernel_rfl) (by kernel_rfl) (fun _ _ _ h => h) (Or.inl ⟨by rfl, ?_⟩) hS0 ?_
                  rotate_left
                  · intro X hX
                    obtain ⟨x0, x1⟩ := hX
                    go_simp
                    try with_reducible rfl
                  simp only [Act.put, List.setIfInBounds_toArray, List.set_cons_zero, List.set_cons_succ, Array.toArray_toList]
                  refine wpAnyH_take (i := 7) (oi := { dst := some 112, op := Op.load 77 (Operand.tmp 5), type := 77, pos := "top07w.go:53", after := #[{ on := 6, ground := Ground.guard }], guard := some (6, false) }) (v := ?_) rfl (by kernel_rfl) (by kernel_rfl) (by kernel_rfl) (fun _ _ _ h => h) (Or.inl ⟨by rfl, ?_⟩) hS0 ?_
                  rotate_left
                  · intro X hX
                    obtain ⟨x0, x1⟩ := hX
                    go_simp
                    try with_reducible rfl
                  simp only [Act.put, List.setIfInBounds_toArray, List.set_cons_zero, List.set_cons_succ, Array.toArray_toList]
                  refine wpAnyH_take (i := 8) (oi := { dst := some 113, op := Op.move (Operand.tmp 20), type := 84, pos := "top07w.go:53", after := #[{ on := 6, ground := Ground.guard }], guard := some (6, false) }) (v := ?_) rfl (by kernel_rfl) (by kernel_rfl) (by kernel_rfl) (fun _ _ _ h => h) (Or.inl ⟨by rfl, ?_⟩) hS0 ?_
                  rotate_left
                  · intro X hX
                    obtain ⟨x0, x1⟩ := hX
                    go_simp
                    try with_reducible rfl
                  simp only [Act.put, List.setIfInBounds_toArray, List.set_cons_zero, List.set_cons_succ, Array.toArray_toList]
                  refine wpAnyH_take (i := 9) (oi := { dst := some 114, op := Op.move (Operand.tmp 23), type := 3, pos := "top07w.go:53", after := #[{ on := 6, ground := Ground.guard }], guard := some (6, false) }) (v := ?_) rfl (by kernel_rfl) (by kernel_rfl) (by kernel_rfl) (fun _ _ _ h => h) (Or.inl ⟨by rfl, ?_⟩) hS0 ?_
                  rotate_left
                  · intro X hX
                    obtain ⟨x0, x1⟩ := hX
                    go_simp
                    try with_reducible rfl
                  simp only [Act.put, List.setIfInBounds_toArray, List.set_cons_zero, List.set_cons_succ, Array.toArray_toList]
                  refine wpAnyH_take (i := 10) (oi := { dst := some 115, op := Op.indexAddr 84 (Operand.tmp 113) (Operand.tmp 114), type := 0, pos := "top07w.go:53", after := #[{ on := 8, ground := Ground.data }, { on := 9, ground := Ground.data }, { on := 6, ground := Ground.guard }], guard := some (6, false) }) (v := ?_) rfl (by kernel_rfl) (by kernel_rfl) (by kernel_rfl) (fun _ _ _ h => h) (Or.inl ⟨by rfl, ?_⟩) hS0 ?_
                  rotate_left
                  · intro X hX
                    obtain ⟨x0, x1⟩ := hX
                    go_simp
                    try with_reducible rfl
                  simp only [Act.put, List.setIfInBounds_toArray, List.set_cons_zero, List.set_cons_succ, Array.toArray_toList]
                  refine wpAnyH_take (i := 11) (oi := { dst := some 116, op := Op.load 25 (Operand.tmp 115), type := 25, pos := "top07w.go:53", after := #[{ on := 10, ground := Ground.data }, { on := 6, ground := Ground.guard }], guard := some (6, false) }) (v := ?_) rfl (by kernel_rfl) (by kernel_rfl) (by kernel_rfl) (fun _ _ _ h => h) (Or.inl ⟨by rfl, ?_⟩) hS0 ?_
                  rotate_left
                  · intro X hX
                    obtain ⟨x0, x1⟩ := hX
                    go_simp
                    try with_reducible rfl
                  simp only [Act.put, List.setIfInBounds_toArray, List.set_cons_zero, List.set_cons_succ, Array.toArray_toList]
                  refine wpAnyH_ready (rs := [12]) (by kernel_rfl) (by simp) (AllReadyH.cons (o := { dst := some 117, op := Op.call { callee := Callee.value (Operand.func 57), args := #[Operand.tmp 112, Operand.tmp 116], argTypes := #[77, 25] }, type := 4, pos := "top07w.go:53", after := #[{ on := 7, ground := Ground.data }, { on := 11, ground := Ground.data }, { on := 6, ground := Ground.chain }, { on := 6, ground := Ground.guard }], guard := some (6, false) }) rfl (fun K hK => ?_) AllReadyH.nil)
                  go_simp
                  refine (isText_any cA ccap cs.length (.slice Au t.length cpu) t _ hc6 (HU.out.keep ((Below.refl _ wr).drew) (Nat.le_refl _)) HTL.out (by omega)).mono ?_
                  rintro e' w11 ⟨rfl, hb⟩
                  have hb11 : Below wr.heap.size wr w11 := (Below.refl _ wr).drew.trans hb
                  have HBE11 := Lib.hid hb11
                  clear hb hb11
                  go_wp2_with fail
                  refine hK.out _ _ (⟨cell_later HBE11.out CU.out, cell_later HBE11.out CC.out⟩) (fun hS1 => ?_)
                  clear hS0 hK K
                  refine wpAnyH_take (i := 13) (oi := { dst := some 118, op := Op.unOp UnOp.not 4 (Operand.tmp 117), type := 4, pos := "top07w.go:53", after := #[{ on := 12, ground := Ground.data }, { on := 6, ground := Ground.guard }], guard := some (6, false) }) (v := ?_) rfl (by kernel_rfl) (by kernel_rfl) (by kernel_rfl) (fun _ _ _ h => h) (Or.inl ⟨by rfl, ?_⟩) hS1 ?_
                  rotate_left
                  · intro X hX
                    obtain ⟨x0, x1⟩ := hX
                    go_simp
                    try with_reducible rfl
                  simp only [Act.put, List.setIfInBounds_toArray, List.set_cons_zero, List.set_cons_succ, Array.toArray_toList]
                  refine wpAnyH_take (i := 14) (oi := { dst := some 119, op := Op.pick (Operand.tmp 111) (Operand.const (Value.bool true)) (Operand.tmp 118), type := 4, pos := "top07w.go:53", after := #[{ on := 6, ground := Ground.data }, { on := 13, ground := Ground.data }], guard := none }) (v := ?_) rfl (by kernel_rfl) (by kernel_rfl) (by kernel_rfl) (fun _ _ _ h => h) (Or.inl ⟨by rfl, ?_⟩) hS1 ?_
                  rotate_left
                  · intro X hX
                    obtain ⟨x0, x1⟩ := hX
                    go_simp
                    try with_reducible rfl
                  simp only [Act.put, List.setIfInBounds_toArray, List.set_cons_zero, List.set_cons_succ, Array.toArray_toList]
                  refine wpAnyH_done (by kernel_rfl) ?_ _
                  clear hS1
                  have HB20 := Lib.hid (HBE.out.trans (HBE11.out.mono HBE.out.size))
                  have FA20 := Lib.hid (FA.out.keep HBE11.out (Nat.le_refl _))
                  have NBi20 := Lib.hid ((HBE11.out.block Bi (Array.getElem?_eq_some_iff.1 NI.out).1).trans NI.out)
                  clear HBE11 HBW HBE FA FI FQ HU CU CC HN NI h4'
                  obtain ⟨w20, rfl⟩ : ∃ x : World, x = w11 := ⟨_, rfl⟩
                  obtain ⟨cBi0_20, cBi1_20, cBi2_20⟩ := blk3 NBi20.out
                  have lBi := (Array.getElem?_eq_some_iff.1 NBi20.out).1
                  have hX0 := (copy_block lBi (.cells #[.slice (some ⟨gA, 0, none⟩) l.length cap, .int .i64 T, .int .i64 C] 24) (.cells #[] 71)).trans NBi20.out
                  have hX1 : ((w20.alloc (.cells #[.slice (some ⟨gA, 0, none⟩) l.length cap, .int .i64 T, .int .i64 C] 24)).alloc (.cells #[] 71)).cell? ⟨Bi, 0, none⟩ = some (.slice (some ⟨gA, 0, none⟩) l.length cap) := by simp only [World.cell?, hX0]; rfl
                  have hMD := Lib.hid (copy_made w20 (.slice (some ⟨gA, 0, none⟩) l.length cap) T C)
                  have hFL := Lib.hid (copy_flat FA20.out (.cells #[.slice (some ⟨gA, 0, none⟩) l.length cap, .int .i64 T, .int .i64 C] 24) (.cells #[] 71))
                  clear hX0
                  go_wp2_with (at_builtin; refine wpList_append_own _ rfl _ _ 22 rfl (w20.heap.size + 1) 71 i0 (.agg #[.int .i64 0, .int .i64 0, .int .i64 0, .int .i64 0]) 4 32 Try.underlying22 hi0 hz0 hz1 hz2 rfl (by decide) _ 0 [] rfl hMD.out ⟨gA, 0, none⟩ l.length cap (flatA l) rfl (flatA_length _) hFL.out (flatA_one _) ?c3 ?c4 ?c5 ?_)
                  case c3 => unfold maxLen; omega
                  case c4 => omega
                  case c5 => simp
                  intro v' w1x hown1 hgrow _
                  obtain ⟨gx, cpx, rfl, hx1, hcop⟩ := copied (Bi := Bi) (w0 := w10) rfl hpos HB20.out lBi hown1 hgrow
                  have z0 : w1x.frozen? ⟨w20.heap.size, 0, none⟩ = false := by simp [World.frozen?, hx1]
                  have z1 : w1x.cell? ⟨w20.heap.size, 0, none⟩ = some (.slice (some ⟨gA, 0, none⟩) l.length cap) := by simp only [World.cell?, hx1]; rfl
                  have HCOP := Lib.hid hcop
                  clear hown1 hgrow hcop hMD hFL hX1 hx1
                  go_wp2_with fail
                  generalize w1x.setCell ⟨w20.heap.size, 0, none⟩ (.slice (some ⟨gx, 0, none⟩) l.length cpx) = w21 at HCOP ⊢
                  obtain ⟨Bx, hBx⟩ : ∃ B, w20.heap.size = B := ⟨_, rfl⟩
                  have oBx : w10.heap.size ≤ Bx := by have := HB20.out.size; omega
                  have oBix : Bi < Bx := by omega
                  rw [hBx] at HCOP ⊢
                  have HB21 := Lib.hid HCOP.out.below
                  have NBi21 := Lib.hid (HCOP.out.old.trans NBi20.out)
                  have NBx21 := Lib.hid HCOP.out.new
                  have FRx21 := Lib.hid HCOP.out.row
                  have gBx := HCOP.out.far
                  clear HCOP z0 z1 hBx
                  clear HB20 NBi20 cBi0_20 cBi1_20 cBi2_20 
                  obtain ⟨cBi0_21, cBi1_21, cBi2_21⟩ := blk3 NBi21.out
                  obtain ⟨cBx0_21, cBx1_21, cBx2_21⟩ := blk3 NBx21.out
                  obtain ⟨V, hV⟩ : ∃ V, valN cs.length t = V := ⟨_, rfl⟩
                  have hva := Lib.hid (fun (X : World) (hX : Below w10.heap.size w10 X) => valued_any (.slice Au t.length cpu) t cs.length X (HU10.out.keep hX (Nat.le_refl _)) HTL.out H4.out (by omega) hc6)
                  rw [hV] at hva
                  have HV := Lib.hid hV
                  clear hV
                  have x3 := (FRx21.out.cells hi).2.2.1
                  have z3 := FRx21.out.frozen (i * 4 + 2)
                  have CU21 := Lib.hid (cell_later HB21.out CU10.out)
                  have hblt := World.block_lt_of_cell? w10 _ CU10.out
                  dsimp only at hblt
                  go_upto_region 21 with fail
                  refine wp_region_held_drew (S := fun X => X.cell? ⟨Bx, 0, none⟩ = some (.slice (some ⟨gx, 0, none⟩) l.length cpx) ∧ X.cell? ⟨bl, ol + m, none⟩ = some (.slice Au t.length cpu)) (by kernel_rfl) (⟨cBx0_21, CU21.out⟩) (fun hS0 => ?_)
                  refine wpAnyH_take (i := 0) (oi := { dst := some 126, op := Op.fieldAddr 24 (Operand.tmp 24) 0, type := 0, pos := "top07w.go:58", after := #[], guard := none }) (v := ?_) rfl (by kernel_rfl) (by kernel_rfl) (by kernel_rfl) (fun _ _ _ h => h) (Or.inl ⟨by rfl, ?_⟩) hS0 ?_
                  rotate_left
                  · intro X hX
                    obtain ⟨x0, x1⟩ := hX
                    go_simp
                    try with_reducible rfl
                  simp only [Act.put, List.setIfInBounds_toArray, List.set_cons_zero, List.set_cons_succ, Array.toArray_toList]
                  refine wpAnyH_take (i := 1) (oi := { dst := some 127, op := Op.load 22 (Operand.tmp 126), type := 22, pos := "top07w.go:58", after := #[{ on := 0, ground := Ground.data }], guard := none }) (v := ?_) rfl (by kernel_rfl) (by kernel_rfl) (by kernel_rfl) (fun _ _ _ h => h) (Or.inl ⟨by rfl, ?_⟩) hS0 ?_
                  rotate_left
                  · intro X hX
                    obtain ⟨x0, x1⟩ := hX
                    go_simp
                    try with_reducible rfl
                  simp only [Act.put, List.setIfInBounds_toArray, List.set_cons_zero, List.set_cons_succ, Array.toArray_toList]
                  refine wpAnyH_take (i := 2) (oi := { dst := some 128, op := Op.move (Operand.tmp 16), type := 3, pos := "top07w.go:58", after := #[], guard := none }) (v := ?_) rfl (by kernel_rfl) (by kernel_rfl) (by kernel_rfl) (fun _ _ _ h => h) (Or.inl ⟨by rfl, ?_⟩) hS0 ?_
                  rotate_left
                  · intro X hX
                    obtain ⟨x0, x1⟩ := hX
                    go_simp
                    try with_reducible rfl
                  simp only [Act.put, List.setIfInBounds_toArray, List.set_cons_zero, List.set_cons_succ, Array.toArray_toList]
                  refine wpAnyH_take (i := 3) (oi := { dst := some 129, op := Op.move (Operand.tmp 20), type := 84, pos := "top07w.go:58", after := #[], guard := none }) (v := ?_) rfl (by kernel_rfl) (by kernel_rfl) (by kernel_rfl) (fun _ _ _ h => h) (Or.inl ⟨by rfl, ?_⟩) hS0 ?_
                  rotate_left
                  · intro X hX
                    obtain ⟨x0, x1⟩ := hX
                    go_simp
                    try with_reducible rfl
                  simp only [Act.put, List.setIfInBounds_toArray, List.set_cons_zero, List.set_cons_succ, Array.toArray_toList]
                  refine wpAnyH_take (i := 4) (oi := { dst := some 130, op := Op.move (Operand.tmp 23), type := 3, pos := "top07w.go:58", after := #[], guard := none }) (v := ?_) rfl (by kernel_rfl) (by kernel_rfl) (by kernel_rfl) (fun _ _ _ h => h) (Or.inl ⟨by rfl, ?_⟩) hS0 ?_
                  rotate_left
                  · intro X hX
                    obtain ⟨x0, x1⟩ := hX
                    go_simp
                    try with_reducible rfl
                  simp only [Act.put, List.setIfInBounds_toArray, List.set_cons_zero, List.set_cons_succ, Array.toArray_toList]
                  refine wpAnyH_take (i := 5) (oi := { dst := some 131, op := Op.indexAddr 84 (Operand.tmp 129) (Operand.tmp 130), type := 0, pos := "top07w.go:58", after := #[{ on := 3, ground := Ground.data }, { on := 4, ground := Ground.data }], guard := none }) (v := ?_) rfl (by kernel_rfl) (by kernel_rfl) (by kernel_rfl) (fun _ _ _ h => h) (Or.inl ⟨by rfl, ?_⟩) hS0 ?_
                  rotate_left
                  · intro X hX
                    obtain ⟨x0, x1⟩ := hX
                    go_simp
                    try with_reducible rfl
                  simp only [Act.put, List.setIfInBounds_toArray, List.set_cons_zero, List.set_cons_succ, Array.toArray_toList]
                  refine wpAnyH_take (i := 6) (oi := { dst := some 132, op := Op.load 25 (Operand.tmp 131), type := 25, pos := "top07w.go:58", after := #[{ on := 5, ground := Ground.data }], guard := none }) (v := ?_) rfl (by kernel_rfl) (by kernel_rfl) (by kernel_rfl) (fun _ _ _ h => h) (Or.inl ⟨by rfl, ?_⟩) hS0 ?_
                  rotate_left
                  · intro X hX
                    obtain ⟨x0, x1⟩ := hX
                    go_simp
                    try with_reducible rfl
                  simp only [Act.put, List.setIfInBounds_toArray, List.set_cons_zero, List.set_cons_succ, Array.toArray_toList]
                  refine wpAnyH_take (i := 7) (oi := { dst := some 133, op := Op.move (Operand.tmp 14), type := 3, pos := "top07w.go:58", after := #[], guard := none }) (v := ?_) rfl (by kernel_rfl) (by kernel_rfl) (by kernel_rfl) (fun _ _ _ h => h) (Or.inl ⟨by rfl, ?_⟩) hS0 ?_
                  rotate_left
                  · intro X hX
                    obtain ⟨x0, x1⟩ := hX
                    go_simp
                    try with_reducible rfl
                  simp only [Act.put, List.setIfInBounds_toArray, List.set_cons_zero, List.set_cons_succ, Array.toArray_toList]
                  refine wpAnyH_ready (rs := [8]) (by kernel_rfl) (by simp) (AllReadyH.cons (o := { dst := some 134, op := Op.call { callee := Callee.value (Operand.func 58), args := #[Operand.tmp 132, Operand.tmp 133], argTypes := #[25, 3] }, type := 3, pos := "top07w.go:58", after := #[{ on := 6, ground := Ground.data }, { on := 7, ground := Ground.data }], guard := none }) rfl (fun K hK => ?_) AllReadyH.nil)
                  go_simp
                  refine (hva.out _ (HB21.out.drew)).mono ?_
                  rintro e' w' ⟨rfl, rfl⟩
                  go_wp2_with fail
                  refine hK.out _ _ (hS0) (fun hS1 => ?_)
                  clear hS0 hK K
                  refine wpAnyH_take (i := 9) (oi := { dst := some 135, op := Op.indexAddr 22 (Operand.tmp 127) (Operand.tmp 128), type := 0, pos := "top07w.go:58", after := #[{ on := 1, ground := Ground.data }, { on := 2, ground := Ground.data }, { on := 0, ground := Ground.phase }, { on := 1, ground := Ground.phase }, { on := 2, ground := Ground.phase }, { on := 3, ground := Ground.phase }, { on := 4, ground := Ground.phase }, { on := 5, ground := Ground.phase }, { on := 6, ground := Ground.phase }, { on := 7, ground := Ground.phase }, { on := 8, ground := Ground.phase }], guard := none }) (v := ?_) rfl (by kernel_rfl) (by kernel_rfl) (by kernel_rfl) (fun _ _ _ h => h) (Or.inl ⟨by rfl, ?_⟩) hS1 ?_
                  rotate_left
                  · intro X hX
                    obtain ⟨x0, x1⟩ := hX
                    go_simp
                    try with_reducible rfl
                  simp only [Act.put, List.setIfInBounds_toArray, List.set_cons_zero, List.set_cons_succ, Array.toArray_toList]
                  refine wpAnyH_take (i := 10) (oi := { dst := some 136, op := Op.fieldAddr 71 (Operand.tmp 135) 2, type := 0, pos := "top07w.go:58", after := #[{ on := 9, ground := Ground.data }, { on := 0, ground := Ground.phase }, { on := 1, ground := Ground.phase }, { on := 2, ground := Ground.phase }, { on := 3, ground := Ground.phase }, { on := 4, ground := Ground.phase }, { on := 5, ground := Ground.phase }, { on := 6, ground := Ground.phase }, { on := 7, ground := Ground.phase }, { on := 8, ground := Ground.phase }], guard := none }) (v := ?_) rfl (by kernel_rfl) (by kernel_rfl) (by kernel_rfl) (fun _ _ _ h => h) (Or.inl ⟨by rfl, ?_⟩) hS1 ?_
                  rotate_left
                  · intro X hX
                    obtain ⟨x0, x1⟩ := hX
                    go_simp
                    try with_reducible rfl
                  simp only [Act.put, List.setIfInBounds_toArray, List.set_cons_zero, List.set_cons_succ, Array.toArray_toList]
                  refine wpAnyH_ready (rs := [11]) (by kernel_rfl) (by simp) (AllReadyH.cons (o := { dst := none, op := Op.store 3 (Operand.tmp 136) (Operand.tmp 134), type := 0, pos := "top07w.go:58", after := #[{ on := 10, ground := Ground.data }, { on := 8, ground := Ground.data }, { on := 8, ground := Ground.chain }, { on := 0, ground := Ground.phase }, { on := 1, ground := Ground.phase }, { on := 2, ground := Ground.phase }, { on := 3, ground := Ground.phase }, { on := 4, ground := Ground.phase }, { on := 5, ground := Ground.phase }, { on := 6, ground := Ground.phase }, { on := 7, ground := Ground.phase }, { on := 8, ground := Ground.phase }], guard := none }) rfl (fun K hK => ?_) AllReadyH.nil)
                  go_simp
                  refine hK.out _ _ (⟨(World.cell?_of_block (a := ⟨Bx, 0, none⟩) (Below.heap_setCell _ _ _ _ (show Bx ≠ gx by omega))).trans cBx0_21, (World.cell?_of_block (a := ⟨bl, ol + m, none⟩) (Below.heap_setCell _ _ _ _ (show bl ≠ gx by omega))).trans CU21.out⟩) (fun hS2 => ?_)
                  clear hS1 hK K
                  refine wpAnyH_done (by kernel_rfl) ?_ _
                  clear hS2
                  have hrow : AngRow (w21.setCell ⟨gx, i * 4 + 2, none⟩ (.int .i64 (V : Int))).drew gx (l.set i (putF l[i] 2 (V : Int))) := (FRx21.out.put hi (f := 2) (by omega) (V : Int)).of_block rfl
                  have hBs : Below w10.heap.size w10 (w21.setCell ⟨gx, i * 4 + 2, none⟩ (.int .i64 (V : Int))).drew := (HB21.out.setCell (by simp; omega) _).drew
                  have hXs : (w21.setCell ⟨gx, i * 4 + 2, none⟩ (.int .i64 (V : Int))).drew.heap[Bx]? = _ := (Below.heap_setCell _ _ _ _ (by show Bx ≠ gx; omega)).trans NBx21.out
                  go_upto_region 22 with fail
                  have HB22 := Lib.hid hBs
                  have NX22 := Lib.hid hXs
                  have FR22 := Lib.hid hrow
                  clear hBs hXs hrow x3 z3 CU21 HB21 NBi21 NBx21 FRx21 cBi0_21 cBi1_21 cBi2_21 cBx0_21 cBx1_21 cBx2_21 hva
                  generalize (w21.setCell ⟨gx, i * 4 + 2, none⟩ (.int .i64 (V : Int))).drew = w22 at HB22 NX22 FR22 ⊢
                  obtain ⟨e220, e221, e222⟩ := blk3 NX22.out
                  have HXL := Lib.hid (rd_len (r := (V : Int)) hi)
                  have HXO := Lib.hid (fun (h : V ≤ 40) => rd_ok (r := (V : Int)) HO.out hi (by omega) (by omega))
                  have HXS := Lib.hid (fun (h : sent = t) => show l.set i (putF l[i] 2 (V : Int)) = l by
                    have hv := HSV.out
                    rw [h, HV.out] at hv
                    rw [hv, ← HRN.out]
                    have : putF l[i] 2 l[i].r = l[i] := rfl
                    rw [this]
                    exact List.set_getElem_self hi)
                  have HXD := Lib.hid (fun (h : V ≤ 40) => rd_sure (r := (V : Int)) (e := e) HO.out (by omega) hi (by omega) (by omega))
                  have y2 : w22.cell? ⟨gx, i * 4 + 2, none⟩ = some (.int .i64 (V : Int)) := by
                    have := (FR22.out.cells (i := i) (by rw [HXL.out]; exact hi)).2.2.1
                    rw [this]
                    simp [putF]
                  generalize l.set i (putF l[i] 2 (V : Int)) = X at FR22 HXL HXO HXS HXD
                  by_cases h40v : 40 < V
                  · have h40v' : decide ((40 : Int) < (V : Int)) = true := by simp; omega
                    have h40w : decide (40 < V) = true := by simpa using h40v
                    have hts : decide (sent = t) = false := by
                      rw [decide_eq_false_iff_not]
                      intro h
                      have hv := HSV.out
                      rw [h, HV.out] at hv
                      omega
                    have HTS := Lib.hid hts
                    clear hts
                    go_wp2_with fail
                    go_roundw
                    case rel => exact ⟨m + 1, by omega, by go_num, by rw [HSTK.out, HTS.out, Bool.or_false], HB22.out⟩
                    case measure => simp [intOf]; omega
                  · have h40v' : decide ((40 : Int) < (V : Int)) = false := by simp; omega
                    have h40w : decide (40 < V) = false := by simpa using h40v
                    have hnet := net_n (some ⟨gx, 0, none⟩) l.length cpx T C X w22 HXL.out FR22.out.angs (by omega)
                    have HNET := Lib.hid hnet
                    clear hnet
                    go_wp2_with fail
                    refine HNET.out.mono ?_
                    rintro e' w23 ⟨A23, cp23, rfl, ha23, hb⟩
                    have HB23 := Lib.hid (HB22.out.trans (hb.mono HB22.out.size))
                    have NX23 := Lib.hid ((hb.block Bx (Array.getElem?_eq_some_iff.1 NX22.out).1).trans NX22.out)
                    have FR23 := Lib.hid (FR22.out.angs.keep hb (Nat.le_refl _))
                    have HA23 := Lib.hid ha23
                    have hxo := HXO.out (by omega)
                    have hxd := HXD.out (by omega)
                    clear hb ha23 HNET HB22 NX22 FR22 y2 e220 e221 e222 HXO HXD
                    have HXO := Lib.hid hxo
                    clear hxo
                    by_cases hs0 : sureL X T C e = 0
                    · have HSH := Lib.hid (show_yes (cap := cp23) (by omega : l.length ≤ 1000000) HXL.out HA23.out hs0)
                      clear hs0 hxd
                      go_wp2_with fail
                      refine HSH.out.mono ?_
                      rintro e' w24 ⟨Av2, cp24, xs2, rfl, hx2l, hx2, htr, hb⟩
                      have HB24 := Lib.hid (HB23.out.trans (hb.mono HB23.out.size))
                      have NX24 := Lib.hid ((hb.block Bx (Array.getElem?_eq_some_iff.1 NX23.out).1).trans NX23.out)
                      have FR24 := Lib.hid (FR23.out.keep hb (Nat.le_refl _))
                      have FX24 := Lib.hid hx2
                      have HTR := Lib.hid htr
                      clear hb hx2 htr hx2l HSH HB23 NX23 FR23 HA23
                      obtain ⟨f0, f1, f2⟩ := blk3 NX24.out
                      have HS24 := Lib.hid (And.intro f0 (And.intro f1 f2))
                      clear f0 f1 f2
                      go_upto_region 24 with fail
                      refine wp_region_held_drew (S := fun X => X.cell? ⟨Bx, 0, none⟩ = some (.slice (some ⟨gx, 0, none⟩) l.length cpx) ∧ X.cell? ⟨Bx, 1, none⟩ = some (.int .i64 T) ∧ X.cell? ⟨Bx, 2, none⟩ = some (.int .i64 C)) (by kernel_rfl) (HS24.out) (fun hS0 => ?_)
                      refine wpAnyH_take (i := 0) (oi := { dst := some 151, op := Op.move (Operand.tmp 26), type := 39, pos := "top07w.go:63", after := #[], guard := none }) (v := ?_) rfl (by kernel_rfl) (by kernel_rfl) (by kernel_rfl) (fun _ _ _ h => h) (Or.inl ⟨by rfl, ?_⟩) hS0 ?_
                      rotate_left
                      · intro X hX
                        obtain ⟨x0, x1, x2⟩ := hX
                        go_simp
                        try with_reducible rfl
                      simp only [Act.put, List.setIfInBounds_toArray, List.set_cons_zero, List.set_cons_succ, Array.toArray_toList]
                      refine wpAnyH_take (i := 1) (oi := { dst := some 152, op := Op.binOp BinOp.neq 39 (Operand.tmp 151) (Operand.const (Value.int IntKind.i64 0)) 39, type := 4, pos := "top07w.go:63", after := #[{ on := 0, ground := Ground.data }], guard := none }) (v := ?_) rfl (by kernel_rfl) (by kernel_rfl) (by kernel_rfl) (fun _ _ _ h => h) (Or.inl ⟨by rfl, ?_⟩) hS0 ?_
                      rotate_left
                      · intro X hX
                        obtain ⟨x0, x1, x2⟩ := hX
                        go_simp
                        try with_reducible rfl
                      simp only [Act.put, List.setIfInBounds_toArray, List.set_cons_zero, List.set_cons_succ, Array.toArray_toList]
                      refine wpAnyH_take (i := 2) (oi := { dst := some 153, op := Op.move (Operand.tmp 152), type := 4, pos := "top07w.go:63", after := #[{ on := 1, ground := Ground.data }], guard := none }) (v := ?_) rfl (by kernel_rfl) (by kernel_rfl) (by kernel_rfl) (fun _ _ _ h => h) (Or.inl ⟨by rfl, ?_⟩) hS0 ?_
                      rotate_left
                      · intro X hX
                        obtain ⟨x0, x1, x2⟩ := hX
                        go_simp
                        try with_reducible rfl
                      simp only [Act.put, List.setIfInBounds_toArray, List.set_cons_zero, List.set_cons_succ, Array.toArray_toList]
                      refine wpAnyH_take (i := 3) (oi := { dst := some 154, op := Op.move (Operand.tmp 26), type := 39, pos := "top07w.go:63", after := #[{ on := 2, ground := Ground.guard }], guard := some (2, true) }) (v := undef) rfl (by kernel_rfl) (by kernel_rfl) (by kernel_rfl) (fun _ _ _ h => h) (Or.inr ⟨by rfl, rfl⟩) hS0 ?_
                      simp only [Act.put, List.setIfInBounds_toArray, List.set_cons_zero, List.set_cons_succ, Array.toArray_toList]
                      refine wpAnyH_take (i := 4) (oi := { dst := some 155, op := Op.binOp BinOp.neq 39 (Operand.tmp 154) (Operand.const (Value.int IntKind.i64 9)) 39, type := 4, pos := "top07w.go:63", after := #[{ on := 3, ground := Ground.data }, { on := 2, ground := Ground.guard }], guard := some (2, true) }) (v := undef) rfl (by kernel_rfl) (by kernel_rfl) (by kernel_rfl) (fun _ _ _ h => h) (Or.inr ⟨by rfl, rfl⟩) hS0 ?_
                      simp only [Act.put, List.setIfInBounds_toArray, List.set_cons_zero, List.set_cons_succ, Array.toArray_toList]
                      refine wpAnyH_take (i := 5) (oi := { dst := some 156, op := Op.pick (Operand.tmp 153) (Operand.tmp 155) (Operand.const (Value.bool false)), type := 4, pos := "top07w.go:63", after := #[{ on := 2, ground := Ground.data }, { on := 4, ground := Ground.data }], guard := none }) (v := ?_) rfl (by kernel_rfl) (by kernel_rfl) (by kernel_rfl) (fun _ _ _ h => h) (Or.inl ⟨by rfl, ?_⟩) hS0 ?_
                      rotate_left
                      · intro X hX
                        obtain ⟨x0, x1, x2⟩ := hX
                        go_simp
                        try with_reducible rfl
                      simp only [Act.put, List.setIfInBounds_toArray, List.set_cons_zero, List.set_cons_succ, Array.toArray_toList]
                      refine wpAnyH_take (i := 6) (oi := { dst := some 157, op := Op.move (Operand.tmp 156), type := 4, pos := "top07w.go:63", after := #[{ on := 5, ground := Ground.data }, { on := 2, ground := Ground.chain }], guard := none }) (v := ?_) rfl (by kernel_rfl) (by kernel_rfl) (by kernel_rfl) (fun _ _ _ h => h) (Or.inl ⟨by rfl, ?_⟩) hS0 ?_
                      rotate_left
                      · intro X hX
                        obtain ⟨x0, x1, x2⟩ := hX
                        go_simp
                        try with_reducible rfl
                      simp only [Act.put, List.setIfInBounds_toArray, List.set_cons_zero, List.set_cons_succ, Array.toArray_toList]
                      refine wpAnyH_take (i := 7) (oi := { dst := some 158, op := Op.move (Operand.tmp 26), type := 39, pos := "top07w.go:63", after := #[{ on := 6, ground := Ground.guard }], guard := some (6, false) }) (v := ?_) rfl (by kernel_rfl) (by kernel_rfl) (by kernel_rfl) (fun _ _ _ h => h) (Or.inl ⟨by rfl, ?_⟩) hS0 ?_
                      rotate_left
                      · intro X hX
                        obtain ⟨x0, x1, x2⟩ := hX
                        go_simp
                        try with_reducible rfl
                      simp only [Act.put, List.setIfInBounds_toArray, List.set_cons_zero, List.set_cons_succ, Array.toArray_toList]
                      refine wpAnyH_take (i := 8) (oi := { dst := some 159, op := Op.binOp BinOp.eql 39 (Operand.tmp 158) (Operand.const (Value.int IntKind.i64 0)) 39, type := 4, pos := "top07w.go:63", after := #[{ on := 7, ground := Ground.data }, { on := 6, ground := Ground.guard }], guard := some (6, false) }) (v := ?_) rfl (by kernel_rfl) (by kernel_rfl) (by kernel_rfl) (fun _ _ _ h => h) (Or.inl ⟨by rfl, ?_⟩) hS0 ?_
                      rotate_left
                      · intro X hX
                        obtain ⟨x0, x1, x2⟩ := hX
                        go_simp
                        try with_reducible rfl
                      simp only [Act.put, List.setIfInBounds_toArray, List.set_cons_zero, List.set_cons_succ, Array.toArray_toList]
                      refine wpAnyH_take (i := 9) (oi := { dst := some 160, op := Op.move (Operand.tmp 159), type := 4, pos := "top07w.go:63", after := #[{ on := 8, ground := Ground.data }, { on := 6, ground := Ground.chain }, { on := 6, ground := Ground.guard }], guard := some (6, false) }) (v := ?_) rfl (by kernel_rfl) (by kernel_rfl) (by kernel_rfl) (fun _ _ _ h => h) (Or.inl ⟨by rfl, ?_⟩) hS0 ?_
                      rotate_left
                      · intro X hX
                        obtain ⟨x0, x1, x2⟩ := hX
                        go_simp
                        try with_reducible rfl
                      simp only [Act.put, List.setIfInBounds_toArray, List.set_cons_zero, List.set_cons_succ, Array.toArray_toList]
                      refine wpAnyH_take (i := 10) (oi := { dst := some 161, op := Op.load 24 (Operand.tmp 24), type := 24, pos := "top07w.go:63", after := #[{ on := 9, ground := Ground.guard }], guard := some (9, true) }) (v := ?_) rfl (by kernel_rfl) (by kernel_rfl) (by kernel_rfl) (fun _ _ _ h => h) (Or.inl ⟨by rfl, ?_⟩) hS0 ?_
                      rotate_left
                      · intro X hX
                        obtain ⟨x0, x1, x2⟩ := hX
                        go_simp
                        try with_reducible rfl
                      simp only [Act.put, List.setIfInBounds_toArray, List.set_cons_zero, List.set_cons_succ, Array.toArray_toList]
                      refine wpAnyH_take (i := 11) (oi := { dst := some 162, op := Op.load 24 (Operand.tmp 24), type := 24, pos := "top07w.go:63", after := #[{ on := 9, ground := Ground.guard }], guard := some (9, true) }) (v := ?_) rfl (by kernel_rfl) (by kernel_rfl) (by kernel_rfl) (fun _ _ _ h => h) (Or.inl ⟨by rfl, ?_⟩) hS0 ?_
                      rotate_left
                      · intro X hX
                        obtain ⟨x0, x1, x2⟩ := hX
                        go_simp
                        try with_reducible rfl
                      simp only [Act.put, List.setIfInBounds_toArray, List.set_cons_zero, List.set_cons_succ, Array.toArray_toList]
                      refine wpAnyH_take (i := 12) (oi := { dst := some 163, op := Op.move (Operand.tmp 11), type := 3, pos := "top07w.go:63", after := #[{ on := 9, ground := Ground.guard }], guard := some (9, true) }) (v := ?_) rfl (by kernel_rfl) (by kernel_rfl) (by kernel_rfl) (fun _ _ _ h => h) (Or.inl ⟨by rfl, ?_⟩) hS0 ?_
                      rotate_left
                      · intro X hX
                        obtain ⟨x0, x1, x2⟩ := hX
                        go_simp
                        try with_reducible rfl
                      simp only [Act.put, List.setIfInBounds_toArray, List.set_cons_zero, List.set_cons_succ, Array.toArray_toList]
                      refine wpAnyH_take (i := 14) (oi := { dst := some 165, op := Op.move (Operand.tmp 25), type := 25, pos := "top07w.go:63", after := #[{ on := 9, ground := Ground.guard }], guard := some (9, true) }) (v := ?_) rfl (by kernel_rfl) (by kernel_rfl) (by kernel_rfl) (fun _ _ _ h => h) (Or.inl ⟨by rfl, ?_⟩) hS0 ?_
                      rotate_left
                      · intro X hX
                        obtain ⟨x0, x1, x2⟩ := hX
                        go_simp
                        try with_reducible rfl
                      simp only [Act.put, List.setIfInBounds_toArray, List.set_cons_zero, List.set_cons_succ, Array.toArray_toList]
                      refine wpAnyH_ready (rs := [13]) (by kernel_rfl) (by simp) (AllReadyH.cons (o := { dst := some 164, op := Op.call { callee := Callee.value (Operand.func 30), args := #[Operand.tmp 162, Operand.tmp 163, Operand.const (Value.int IntKind.i64 0)], argTypes := #[24, 3, 3] }, type := 44, pos := "top07w.go:63", after := #[{ on := 11, ground := Ground.data }, { on := 12, ground := Ground.data }, { on := 9, ground := Ground.chain }, { on := 9, ground := Ground.guard }], guard := some (9, true) }) rfl (fun K hK => ?_) AllReadyH.nil)
                      go_simp
                      refine (refRooms_any gx 0 l.length cpx T C e X 0 _ HXL.out HXO.out (FR24.out.keep ((Below.refl _ w24).drew) (Nat.le_refl _)) e0.1 (by omega) (by decide)).mono ?_
                      rintro e' w25 ⟨rv, rfl, hrv, hb⟩
                      have hb25 : Below w24.heap.size w24 w25 := (Below.refl _ w24).drew.trans hb
                      have HB25 := Lib.hid (HB24.out.trans (hb25.mono HB24.out.size))
                      have FR25 := Lib.hid (FR24.out.keep hb25 (Nat.le_refl _))
                      have FX25 := Lib.hid (FX24.out.keep hb25 (Nat.le_refl _))
                      have NX25 := Lib.hid ((hb25.block Bx (Array.getElem?_eq_some_iff.1 NX24.out).1).trans NX24.out)
                      have HRV := Lib.hid hrv
                      clear hb hb25 hrv
                      go_wp2_with fail
                      refine hK.out _ _ (blk3 NX25.out) (fun hS1 => ?_)
                      clear hS0 hK K
                      refine wpAnyH_ready (rs := [15]) (by kernel_rfl) (by simp) (AllReadyH.cons (o := { dst := some 166, op := Op.call { callee := Callee.value (Operand.func 29), args := #[Operand.tmp 161, Operand.tmp 164, Operand.tmp 165], argTypes := #[24, 44, 25] }, type := 4, pos := "top07w.go:63", after := #[{ on := 10, ground := Ground.data }, { on := 13, ground := Ground.data }, { on := 14, ground := Ground.data }, { on := 13, ground := Ground.chain }, { on := 9, ground := Ground.guard }], guard := some (9, true) }) rfl (fun K hK => ?_) AllReadyH.nil)
                      go_simp
                      have hit := refIsTruth_any gx 0 l.length cpx T C e X rv _ xs2 w25 HXL.out HXO.out FR25.out e0.1 HRV.out FX25.out
                      rw [HTR.out] at hit
                      have HIT := Lib.hid hit
                      clear hit
                      refine HIT.out.mono ?_
                      rintro e' w26 ⟨rfl, hb⟩
                      have HB26 := Lib.hid (HB25.out.trans (hb.mono HB25.out.size))
                      have NX26 := Lib.hid ((hb.block Bx (Array.getElem?_eq_some_iff.1 NX25.out).1).trans NX25.out)
                      have FR26 := Lib.hid (FR25.out.keep hb (Nat.le_refl _))
                      clear hb HIT
                      go_wp2_with fail
                      refine hK.out _ _ (blk3 NX26.out) (fun hS2 => ?_)
                      clear hS1 hK K
                      refine wpAnyH_take (i := 16) (oi := { dst := some 167, op := Op.unOp UnOp.not 4 (Operand.tmp 166), type := 4, pos := "top07w.go:63", after := #[{ on := 15, ground := Ground.data }, { on := 9, ground := Ground.guard }], guard := some (9, true) }) (v := ?_) rfl (by kernel_rfl) (by kernel_rfl) (by kernel_rfl) (fun _ _ _ h => h) (Or.inl ⟨by rfl, ?_⟩) hS2 ?_
                      rotate_left
                      · intro X hX
                        obtain ⟨x0, x1, x2⟩ := hX
                        go_simp
                        try with_reducible rfl
                      simp only [Act.put, List.setIfInBounds_toArray, List.set_cons_zero, List.set_cons_succ, Array.toArray_toList]
                      refine wpAnyH_take (i := 17) (oi := { dst := some 168, op := Op.pick (Operand.tmp 160) (Operand.tmp 167) (Operand.const (Value.bool false)), type := 4, pos := "top07w.go:63", after := #[{ on := 9, ground := Ground.data }, { on := 16, ground := Ground.data }, { on := 6, ground := Ground.guard }], guard := some (6, false) }) (v := ?_) rfl (by kernel_rfl) (by kernel_rfl) (by kernel_rfl) (fun _ _ _ h => h) (Or.inl ⟨by rfl, ?_⟩) hS2 ?_
                      rotate_left
                      · intro X hX
                        obtain ⟨x0, x1, x2⟩ := hX
                        go_simp
                        try with_reducible rfl
                      simp only [Act.put, List.setIfInBounds_toArray, List.set_cons_zero, List.set_cons_succ, Array.toArray_toList]
                      refine wpAnyH_take (i := 18) (oi := { dst := some 169, op := Op.pick (Operand.tmp 157) (Operand.const (Value.bool true)) (Operand.tmp 168), type := 4, pos := "top07w.go:63", after := #[{ on := 6, ground := Ground.data }, { on := 17, ground := Ground.data }], guard := none }) (v := ?_) rfl (by kernel_rfl) (by kernel_rfl) (by kernel_rfl) (fun _ _ _ h => h) (Or.inl ⟨by rfl, ?_⟩) hS2 ?_
                      rotate_left
                      · intro X hX
                        obtain ⟨x0, x1, x2⟩ := hX
                        go_simp
                        try with_reducible rfl
                      simp only [Act.put, List.setIfInBounds_toArray, List.set_cons_zero, List.set_cons_succ, Array.toArray_toList]
                      refine wpAnyH_done (by kernel_rfl) ?_ _
                      clear hS2
                      clear HB24 NX24 FR24 FX24 HS24 HTR HB25 FR25 FX25 NX25 HRV
                      have hcu := cell_later HB26.out CU10.out
                      have HSM := Lib.hid (fun (Y : World) (hY : Below w10.heap.size w10 Y) => same2_any (.slice Au t.length cpu) (.slice Aq sent.length cq) (intsN t) (intsN sent) Y (HU10.out.keep hY (Nat.le_refl _)) (FQ10.out.keep hY (Nat.le_refl _)) (by rw [intsN_len]; omega))
                      rw [intsN_dec] at HSM
                      cases hts : decide (sent = t) with
                      | false =>
                        rw [hts] at HSM
                        have HTS := Lib.hid hts
                        clear hts
                        go_wp2_with fail
                        refine (HSM.out _ HB26.out).mono ?_
                        rintro e' w27 ⟨rfl, hb⟩
                        have HB27 := Lib.hid (HB26.out.trans (hb.mono HB26.out.size))
                        clear hb hcu HSM
                        go_wp2_with fail
                        go_roundw
                        case rel => exact ⟨m + 1, by omega, by go_num, by rw [HSTK.out, HTS.out, Bool.or_false], HB27.out⟩
                        case measure => simp [intOf]; omega
                      | true =>
                        rw [hts] at HSM
                        have HTS := Lib.hid hts
                        have hst : sent = t := of_decide_eq_true hts
                        have hxe := HXS.out hst
                        clear hts hst
                        subst hxe
                        go_wp2_with fail
                        refine (HSM.out _ HB26.out).mono ?_
                        rintro e' w27 ⟨rfl, hb⟩
                        have HB27 := Lib.hid (HB26.out.trans (hb.mono HB26.out.size))
                        have NX27 := Lib.hid ((hb.block Bx (Array.getElem?_eq_some_iff.1 NX26.out).1).trans NX26.out)
                        have FR27 := Lib.hid (FR26.out.keep hb (Nat.le_refl _))
                        clear hb hcu HSM HB26 NX26 FR26
                        obtain ⟨f0, f1, f2⟩ := blk3 NX27.out
                        have HNET := Lib.hid (net_n (some ⟨gx, 0, none⟩) X.length cpx T C X w27 rfl FR27.out (by omega))
                        go_wp2_with fail
                        refine HNET.out.mono ?_
                        rintro e' w28 ⟨A28, cp28, rfl, ha28, hb⟩
                        have HB28 := Lib.hid (HB27.out.trans (hb.mono HB27.out.size))
                        have HA28 := Lib.hid ha28
                        have FI28 := Lib.hid (FI10.out.keep HB28.out (Nat.le_refl _))
                        clear hb ha28 HNET f0 f1 f2 HB27 NX27 FR27
                        have htb2 := truthB_iff.1 HTB.out
                        have hxl : xs.length = X.length := htb2.2.1
                        have hxp : 0 < xs.length := by omega
                        have hx12 : xs.length ≤ 1000 := by omega
                        obtain ⟨ba, qa, rfl⟩ : ∃ ba qa, Av = some ⟨ba, qa, none⟩ := by
                          obtain ⟨A', c', he, h⟩ := FI28.out
                          cases he
                          obtain ⟨b', o', h1, _⟩ := h.resolve_left (fun h => by rw [h] at hxp; simp at hxp)
                          exact ⟨b', o', h1⟩
                        have hb29 : Below w28.heap.size w28 (w28.alloc (.cells #[] 3)) := (Below.refl _ _).alloc (Nat.le_refl _) _
                        have HI29 := Lib.hid (FI28.out.keep hb29 (Nat.le_refl _))
                        have HM29 := Lib.hid (World.ownsRow_made (base := w28.heap.size) (e := 3) (size := 1) w28 #[] 0 (Nat.le_refl _) (by decide) rfl)
                        have HBS := Lib.hid (show w28.heap.size ≤ (w28.alloc (.cells #[] 3)).heap.size by simp)
                        have HX12 := Lib.hid hx12
                        clear hb29 htb2 hxl hxp hx12 FI28
                        go_wp2_with (at_builtin; refine wpList_copy_g (by rfl) _ _ rfl w28.heap.size _ rfl HM29.out ba qa cv xs rfl HI29.out HX12.out HBS.out ?_)
                        intro v30 w30 hi30 hgr30
                        have hb30 : Below w28.heap.size w28 w30 := ((Below.refl _ w28).alloc (Nat.le_refl _) (.cells #[] 3)).grown hgr30 (by simp) (fun k hk => by simp [Value.ownBlock] at hk; omega)
                        have HB30 := Lib.hid (HB28.out.trans (hb30.mono HB28.out.size))
                        have hpt := proveTruth_any A28 X.length cp28 T C e X v30 xs w30 (by omega) rfl (HA28.out.keep hb30 (Nat.le_refl _)) hi30
                        rw [HTB.out] at hpt
                        have HPT := Lib.hid hpt
                        clear hi30 hgr30 hb30 hpt HA28 HB28 HI29 HM29 HBS
                        go_wp2_with fail
                        refine HPT.out.mono ?_
                        rintro e' w31 ⟨rfl, hb⟩
                        have HB31 := Lib.hid (HB30.out.trans (hb.mono HB30.out.size))
                        clear hb HPT HB30
                        go_wp2_with fail
                        go_roundw
                        case rel => exact ⟨m + 1, by omega, by go_num, by rw [HSTK.out, HTS.out, Bool.or_true], HB31.out⟩
                        case measure => simp [intOf]; omega
                    · have hs9 : sureL X T C e = 9 := by
                        rw [hxd] at hs0 ⊢
                        split at hs0 <;> simp_all
                      have HSH := show_no (cap := cp23) (by omega : l.length ≤ 1000000) HXL.out HA23.out hs0
                      rw [hs9] at HSH
                      have HSH := Lib.hid HSH
                      have hts : decide (sent = t) = false := by
                        rw [decide_eq_false_iff_not]
                        intro h
                        have h1 := HXS.out h
                        rw [h1] at hs0
                        exact hs0 (truth_sure HTB.out)
                      have HTS := Lib.hid hts
                      clear hs0 hxd hs9 hts
                      go_wp2_with fail
                      refine HSH.out.mono ?_
                      rintro e' w24 ⟨rfl, hb⟩
                      have HB24 := Lib.hid (HB23.out.trans (hb.mono HB23.out.size))
                      clear hb HSH HB23 NX23 FR23 HA23
                      go_upto_region 24 with fail
                      have HCU := Lib.hid (cell_later HB24.out.drew CU10.out)
                      refine wp_region_held_drew (S := fun X => True) (by kernel_rfl) (trivial) (fun hS0 => ?_)
                      refine wpAnyH_take (i := 0) (oi := { dst := some 151, op := Op.move (Operand.tmp 26), type := 39, pos := "top07w.go:63", after := #[], guard := none }) (v := ?_) rfl (by kernel_rfl) (by kernel_rfl) (by kernel_rfl) (fun _ _ _ h => h) (Or.inl ⟨by rfl, ?_⟩) hS0 ?_
                      rotate_left
                      · intro X hX
                        obtain x0 := hX
                        go_simp
                        try with_reducible rfl
                      simp only [Act.put, List.setIfInBounds_toArray, List.set_cons_zero, List.set_cons_succ, Array.toArray_toList]
                      refine wpAnyH_take (i := 1) (oi := { dst := some 152, op := Op.binOp BinOp.neq 39 (Operand.tmp 151) (Operand.const (Value.int IntKind.i64 0)) 39, type := 4, pos := "top07w.go:63", after := #[{ on := 0, ground := Ground.data }], guard := none }) (v := ?_) rfl (by kernel_rfl) (by kernel_rfl) (by kernel_rfl) (fun _ _ _ h => h) (Or.inl ⟨by rfl, ?_⟩) hS0 ?_
                      rotate_left
                      · intro X hX
                        obtain x0 := hX
                        go_simp
                        try with_reducible rfl
                      simp only [Act.put, List.setIfInBounds_toArray, List.set_cons_zero, List.set_cons_succ, Array.toArray_toList]
                      refine wpAnyH_take (i := 2) (oi := { dst := some 153, op := Op.move (Operand.tmp 152), type := 4, pos := "top07w.go:63", after := #[{ on := 1, ground := Ground.data }], guard := none }) (v := ?_) rfl (by kernel_rfl) (by kernel_rfl) (by kernel_rfl) (fun _ _ _ h => h) (Or.inl ⟨by rfl, ?_⟩) hS0 ?_
                      rotate_left
                      · intro X hX
                        obtain x0 := hX
                        go_simp
                        try with_reducible rfl
                      simp only [Act.put, List.setIfInBounds_toArray, List.set_cons_zero, List.set_cons_succ, Array.toArray_toList]
                      refine wpAnyH_take (i := 3) (oi := { dst := some 154, op := Op.move (Operand.tmp 26), type := 39, pos := "top07w.go:63", after := #[{ on := 2, ground := Ground.guard }], guard := some (2, true) }) (v := ?_) rfl (by kernel_rfl) (by kernel_rfl) (by kernel_rfl) (fun _ _ _ h => h) (Or.inl ⟨by rfl, ?_⟩) hS0 ?_
                      rotate_left
                      · intro X hX
                        obtain x0 := hX
                        go_simp
                        try with_reducible rfl
                      simp only [Act.put, List.setIfInBounds_toArray, List.set_cons_zero, List.set_cons_succ, Array.toArray_toList]
                      refine wpAnyH_take (i := 4) (oi := { dst := some 155, op := Op.binOp BinOp.neq 39 (Operand.tmp 154) (Operand.const (Value.int IntKind.i64 9)) 39, type := 4, pos := "top07w.go:63", after := #[{ on := 3, ground := Ground.data }, { on := 2, ground := Ground.guard }], guard := some (2, true) }) (v := ?_) rfl (by kernel_rfl) (by kernel_rfl) (by kernel_rfl) (fun _ _ _ h => h) (Or.inl ⟨by rfl, ?_⟩) hS0 ?_
                      rotate_left
                      · intro X hX
                        obtain x0 := hX
                        go_simp
                        try with_reducible rfl
                      simp only [Act.put, List.setIfInBounds_toArray, List.set_cons_zero, List.set_cons_succ, Array.toArray_toList]
                      refine wpAnyH_take (i := 5) (oi := { dst := some 156, op := Op.pick (Operand.tmp 153) (Operand.tmp 155) (Operand.const (Value.bool false)), type := 4, pos := "top07w.go:63", after := #[{ on := 2, ground := Ground.data }, { on := 4, ground := Ground.data }], guard := none }) (v := ?_) rfl (by kernel_rfl) (by kernel_rfl) (by kernel_rfl) (fun _ _ _ h => h) (Or.inl ⟨by rfl, ?_⟩) hS0 ?_
                      rotate_left
                      · intro X hX
                        obtain x0 := hX
                        go_simp
                        try with_reducible rfl
                      simp only [Act.put, List.setIfInBounds_toArray, List.set_cons_zero, List.set_cons_succ, Array.toArray_toList]
                      refine wpAnyH_take (i := 6) (oi := { dst := some 157, op := Op.move (Operand.tmp 156), type := 4, pos := "top07w.go:63", after := #[{ on := 5, ground := Ground.data }, { on := 2, ground := Ground.chain }], guard := none }) (v := ?_) rfl (by kernel_rfl) (by kernel_rfl) (by kernel_rfl) (fun _ _ _ h => h) (Or.inl ⟨by rfl, ?_⟩) hS0 ?_
                      rotate_left
                      · intro X hX
                        obtain x0 := hX
                        go_simp
                        try with_reducible rfl
                      simp only [Act.put, List.setIfInBounds_toArray, List.set_cons_zero, List.set_cons_succ, Array.toArray_toList]
                      refine wpAnyH_take (i := 7) (oi := { dst := some 158, op := Op.move (Operand.tmp 26), type := 39, pos := "top07w.go:63", after := #[{ on := 6, ground := Ground.guard }], guard := some (6, false) }) (v := ?_) rfl (by kernel_rfl) (by kernel_rfl) (by kernel_rfl) (fun _ _ _ h => h) (Or.inl ⟨by rfl, ?_⟩) hS0 ?_
                      rotate_left
                      · intro X hX
                        obtain x0 := hX
                        go_simp
                        try with_reducible rfl
                      simp only [Act.put, List.setIfInBounds_toArray, List.set_cons_zero, List.set_cons_succ, Array.toArray_toList]
                      refine wpAnyH_take (i := 8) (oi := { dst := some 159, op := Op.binOp BinOp.eql 39 (Operand.tmp 158) (Operand.const (Value.int IntKind.i64 0)) 39, type := 4, pos := "top07w.go:63", after := #[{ on := 7, ground := Ground.data }, { on := 6, ground := Ground.guard }], guard := some (6, false) }) (v := ?_) rfl (by kernel_rfl) (by kernel_rfl) (by kernel_rfl) (fun _ _ _ h => h) (Or.inl ⟨by rfl, ?_⟩) hS0 ?_
                      rotate_left
                      · intro X hX
                        obtain x0 := hX
                        go_simp
                        try with_reducible rfl
                      simp only [Act.put, List.setIfInBounds_toArray, List.set_cons_zero, List.set_cons_succ, Array.toArray_toList]
                      refine wpAnyH_take (i := 9) (oi := { dst := some 160, op := Op.move (Operand.tmp 159), type := 4, pos := "top07w.go:63", after := #[{ on := 8, ground := Ground.data }, { on := 6, ground := Ground.chain }, { on := 6, ground := Ground.guard }], guard := some (6, false) }) (v := ?_) rfl (by kernel_rfl) (by kernel_rfl) (by kernel_rfl) (fun _ _ _ h => h) (Or.inl ⟨by rfl, ?_⟩) hS0 ?_
                      rotate_left
                      · intro X hX
                        obtain x0 := hX
                        go_simp
                        try with_reducible rfl
                      simp only [Act.put, List.setIfInBounds_toArray, List.set_cons_zero, List.set_cons_succ, Array.toArray_toList]
                      refine wpAnyH_take (i := 10) (oi := { dst := some 161, op := Op.load 24 (Operand.tmp 24), type := 24, pos := "top07w.go:63", after := #[{ on := 9, ground := Ground.guard }], guard := some (9, true) }) (v := undef) rfl (by kernel_rfl) (by kernel_rfl) (by kernel_rfl) (fun _ _ _ h => h) (Or.inr ⟨by rfl, rfl⟩) hS0 ?_
                      simp only [Act.put, List.setIfInBounds_toArray, List.set_cons_zero, List.set_cons_succ, Array.toArray_toList]
                      refine wpAnyH_take (i := 11) (oi := { dst := some 162, op := Op.load 24 (Operand.tmp 24), type := 24, pos := "top07w.go:63", after := #[{ on := 9, ground := Ground.guard }], guard := some (9, true) }) (v := undef) rfl (by kernel_rfl) (by kernel_rfl) (by kernel_rfl) (fun _ _ _ h => h) (Or.inr ⟨by rfl, rfl⟩) hS0 ?_
                      simp only [Act.put, List.setIfInBounds_toArray, List.set_cons_zero, List.set_cons_succ, Array.toArray_toList]
                      refine wpAnyH_take (i := 12) (oi := { dst := some 163, op := Op.move (Operand.tmp 11), type := 3, pos := "top07w.go:63", after := #[{ on := 9, ground := Ground.guard }], guard := some (9, true) }) (v := undef) rfl (by kernel_rfl) (by kernel_rfl) (by kernel_rfl) (fun _ _ _ h => h) (Or.inr ⟨by rfl, rfl⟩) hS0 ?_
                      simp only [Act.put, List.setIfInBounds_toArray, List.set_cons_zero, List.set_cons_succ, Array.toArray_toList]
                      refine wpAnyH_take (i := 13) (oi := { dst := some 164, op := Op.call { callee := Callee.value (Operand.func 30), args := #[Operand.tmp 162, Operand.tmp 163, Operand.const (Value.int IntKind.i64 0)], argTypes := #[24, 3, 3] }, type := 44, pos := "top07w.go:63", after := #[{ on := 11, ground := Ground.data }, { on := 12, ground := Ground.data }, { on := 9, ground := Ground.chain }, { on := 9, ground := Ground.guard }], guard := some (9, true) }) (v := undef) rfl (by kernel_rfl) (by kernel_rfl) (by kernel_rfl) (fun _ _ _ h => h) (Or.inr ⟨by rfl, rfl⟩) hS0 ?_
                      simp only [Act.put, List.setIfInBounds_toArray, List.set_cons_zero, List.set_cons_succ, Array.toArray_toList]
                      refine wpAnyH_take (i := 14) (oi := { dst := some 165, op := Op.move (Operand.tmp 25), type := 25, pos := "top07w.go:63", after := #[{ on := 9, ground := Ground.guard }], guard := some (9, true) }) (v := undef) rfl (by kernel_rfl) (by kernel_rfl) (by kernel_rfl) (fun _ _ _ h => h) (Or.inr ⟨by rfl, rfl⟩) hS0 ?_
                      simp only [Act.put, List.setIfInBounds_toArray, List.set_cons_zero, List.set_cons_succ, Array.toArray_toList]
                      refine wpAnyH_take (i := 15) (oi := { dst := some 166, op := Op.call { callee := Callee.value (Operand.func 29), args := #[Operand.tmp 161, Operand.tmp 164, Operand.tmp 165], argTypes := #[24, 44, 25] }, type := 4, pos := "top07w.go:63", after := #[{ on := 10, ground := Ground.data }, { on := 13, ground := Ground.data }, { on := 14, ground := Ground.data }, { on := 13, ground := Ground.chain }, { on := 9, ground := Ground.guard }], guard := some (9, true) }) (v := undef) rfl (by kernel_rfl) (by kernel_rfl) (by kernel_rfl) (fun _ _ _ h => h) (Or.inr ⟨by rfl, rfl⟩) hS0 ?_
                      simp only [Act.put, List.setIfInBounds_toArray, List.set_cons_zero, List.set_cons_succ, Array.toArray_toList]
                      refine wpAnyH_take (i := 16) (oi := { dst := some 167, op := Op.unOp UnOp.not 4 (Operand.tmp 166), type := 4, pos := "top07w.go:63", after := #[{ on := 15, ground := Ground.data }, { on := 9, ground := Ground.guard }], guard := some (9, true) }) (v := undef) rfl (by kernel_rfl) (by kernel_rfl) (by kernel_rfl) (fun _ _ _ h => h) (Or.inr ⟨by rfl, rfl⟩) hS0 ?_
                      simp only [Act.put, List.setIfInBounds_toArray, List.set_cons_zero, List.set_cons_succ, Array.toArray_toList]
                      refine wpAnyH_take (i := 17) (oi := { dst := some 168, op := Op.pick (Operand.tmp 160) (Operand.tmp 167) (Operand.const (Value.bool false)), type := 4, pos := "top07w.go:63", after := #[{ on := 9, ground := Ground.data }, { on := 16, ground := Ground.data }, { on := 6, ground := Ground.guard }], guard := some (6, false) }) (v := ?_) rfl (by kernel_rfl) (by kernel_rfl) (by kernel_rfl) (fun _ _ _ h => h) (Or.inl ⟨by rfl, ?_⟩) hS0 ?_
                      rotate_left
                      · intro X hX
                        obtain x0 := hX
                        go_simp
                        try with_reducible rfl
                      simp only [Act.put, List.setIfInBounds_toArray, List.set_cons_zero, List.set_cons_succ, Array.toArray_toList]
                      refine wpAnyH_take (i := 18) (oi := { dst := some 169, op := Op.pick (Operand.tmp 157) (Operand.const (Value.bool true)) (Operand.tmp 168), type := 4, pos := "top07w.go:63", after := #[{ on := 6, ground := Ground.data }, { on := 17, ground := Ground.data }], guard := none }) (v := ?_) rfl (by kernel_rfl) (by kernel_rfl) (by kernel_rfl) (fun _ _ _ h => h) (Or.inl ⟨by rfl, ?_⟩) hS0 ?_
                      rotate_left
                      · intro X hX
                        obtain x0 := hX
                        go_simp
                        try with_reducible rfl
                      simp only [Act.put, List.setIfInBounds_toArray, List.set_cons_zero, List.set_cons_succ, Array.toArray_toList]
                      refine wpAnyH_done (by kernel_rfl) ?_ _
                      clear hS0
                      have HSM := Lib.hid (fun (Y : World) (hY : Below w10.heap.size w10 Y) => same2_any (.slice Au t.length cpu) (.slice Aq sent.length cq) (intsN t) (intsN sent) Y (HU10.out.keep hY (Nat.le_refl _)) (FQ10.out.keep hY (Nat.le_refl _)) (by rw [intsN_len]; omega))
                      rw [intsN_dec] at HSM
                      rw [HTS.out] at HSM
                      have hcu := HCU.out
                      go_wp2_with fail
                      refine (HSM.out _ HB24.out.drew).mono ?_
                      rintro e' w26 ⟨rfl, hb⟩
                      have HB26 := Lib.hid (HB24.out.drew.trans (hb.mono HB24.out.drew.size))
                      clear hb hcu HSM HCU
                      go_wp2_with fail
                      go_roundw
                      case rel => exact ⟨m + 1, by omega, by go_num, by rw [HSTK.out, HTS.out, Bool.or_false], HB26.out⟩
                      case measure => simp [intOf]; omega
                · have h4' : ((t.length : Int) != 4) = true := by simp; omega
                  have hts : decide (sent = t) = false := by
                    rw [decide_eq_false_iff_not]
                    intro e
                    rw [← e] at h4
                    exact h4 HS4.out
                  have HTS := Lib.hid hts
                  clear h4 hts
                  go_upto_region 18 with fail
                  refine wp_region_held_drew (S := fun X => X.cell? ⟨bl, ol + m, none⟩ = some (.slice Au t.length cpu)) (by kernel_rfl) (CU.out) (fun hS0 => ?_)
                  refine wpAnyH_take (i := 0) (oi := { dst := some 105, op := Op.move (Operand.tmp 20), type := 84, pos := "top07w.go:53", after := #[], guard := none }) (v := ?_) rfl (by kernel_rfl) (by kernel_rfl) (by kernel_rfl) (fun _ _ _ h => h) (Or.inl ⟨by rfl, ?_⟩) hS0 ?_
                  rotate_left
                  · intro X hX
                    obtain x0 := hX
                    go_simp
                    try with_reducible rfl
                  simp only [Act.put, List.setIfInBounds_toArray, List.set_cons_zero, List.set_cons_succ, Array.toArray_toList]
                  refine wpAnyH_take (i := 1) (oi := { dst := some 106, op := Op.move (Operand.tmp 23), type := 3, pos := "top07w.go:53", after := #[], guard := none }) (v := ?_) rfl (by kernel_rfl) (by kernel_rfl) (by kernel_rfl) (fun _ _ _ h => h) (Or.inl ⟨by rfl, ?_⟩) hS0 ?_
                  rotate_left
                  · intro X hX
                    obtain x0 := hX
                    go_simp
                    try with_reducible rfl
                  simp only [Act.put, List.setIfInBounds_toArray, List.set_cons_zero, List.set_cons_succ, Array.toArray_toList]
                  refine wpAnyH_take (i := 2) (oi := { dst := some 107, op := Op.indexAddr 84 (Operand.tmp 105) (Operand.tmp 106), type := 0, pos := "top07w.go:53", after := #[{ on := 0, ground := Ground.data }, { on := 1, ground := Ground.data }], guard := none }) (v := ?_) rfl (by kernel_rfl) (by kernel_rfl) (by kernel_rfl) (fun _ _ _ h => h) (Or.inl ⟨by rfl, ?_⟩) hS0 ?_
                  rotate_left
                  · intro X hX
                    obtain x0 := hX
                    go_simp
                    try with_reducible rfl
                  simp only [Act.put, List.setIfInBounds_toArray, List.set_cons_zero, List.set_cons_succ, Array.toArray_toList]
                  refine wpAnyH_take (i := 3) (oi := { dst := some 108, op := Op.load 25 (Operand.tmp 107), type := 25, pos := "top07w.go:53", after := #[{ on := 2, ground := Ground.data }], guard := none }) (v := ?_) rfl (by kernel_rfl) (by kernel_rfl) (by kernel_rfl) (fun _ _ _ h => h) (Or.inl ⟨by rfl, ?_⟩) hS0 ?_
                  rotate_left
                  · intro X hX
                    obtain x0 := hX
                    go_simp
                    try with_reducible rfl
                  simp only [Act.put, List.setIfInBounds_toArray, List.set_cons_zero, List.set_cons_succ, Array.toArray_toList]
                  refine wpAnyH_take (i := 4) (oi := { dst := some 109, op := Op.call { callee := Callee.builtin Builtin.len, args := #[Operand.tmp 108], argTypes := #[25] }, type := 3, pos := "top07w.go:53", after := #[{ on := 3, ground := Ground.data }], guard := none }) (v := ?_) rfl (by kernel_rfl) (by kernel_rfl) (by kernel_rfl) (fun _ _ _ h => h) (Or.inl ⟨by rfl, ?_⟩) hS0 ?_
                  rotate_left
                  · intro X hX
                    obtain x0 := hX
                    go_simp
                    try with_reducible rfl
                  simp only [Act.put, List.setIfInBounds_toArray, List.set_cons_zero, List.set_cons_succ, Array.toArray_toList]
                  refine wpAnyH_take (i := 5) (oi := { dst := some 110, op := Op.binOp BinOp.neq 3 (Operand.tmp 109) (Operand.const (Value.int IntKind.i64 4)) 3, type := 4, pos := "top07w.go:53", after := #[{ on := 4, ground := Ground.data }], guard := none }) (v := ?_) rfl (by kernel_rfl) (by kernel_rfl) (by kernel_rfl) (fun _ _ _ h => h) (Or.inl ⟨by rfl, ?_⟩) hS0 ?_
                  rotate_left
                  · intro X hX
                    obtain x0 := hX
                    go_simp
                    try with_reducible rfl
                  simp only [Act.put, List.setIfInBounds_toArray, List.set_cons_zero, List.set_cons_succ, Array.toArray_toList]
                  refine wpAnyH_take (i := 6) (oi := { dst := some 111, op := Op.move (Operand.tmp 110), type := 4, pos := "top07w.go:53", after := #[{ on := 5, ground := Ground.data }], guard := none }) (v := ?_) rfl (by kernel_rfl) (by kernel_rfl) (by kernel_rfl) (fun _ _ _ h => h) (Or.inl ⟨by rfl, ?_⟩) hS0 ?_
                  rotate_left
                  · intro X hX
                    obtain x0 := hX
                    go_simp
                    try with_reducible rfl
                  simp only [Act.put, List.setIfInBounds_toArray, List.set_cons_zero, List.set_cons_succ, Array.toArray_toList]
                  refine wpAnyH_take (i := 7) (oi := { dst := some 112, op := Op.load 77 (Operand.tmp 5), type := 77, pos := "top07w.go:53", after := #[{ on := 6, ground := Ground.guard }], guard := some (6, false) }) (v := undef) rfl (by kernel_rfl) (by kernel_rfl) (by kernel_rfl) (fun _ _ _ h => h) (Or.inr ⟨by rfl, rfl⟩) hS0 ?_
                  simp only [Act.put, List.setIfInBounds_toArray, List.set_cons_zero, List.set_cons_succ, Array.toArray_toList]
                  refine wpAnyH_take (i := 8) (oi := { dst := some 113, op := Op.move (Operand.tmp 20), type := 84, pos := "top07w.go:53", after := #[{ on := 6, ground := Ground.guard }], guard := some (6, false) }) (v := undef) rfl (by kernel_rfl) (by kernel_rfl) (by kernel_rfl) (fun _ _ _ h => h) (Or.inr ⟨by rfl, rfl⟩) hS0 ?_
                  simp only [Act.put, List.setIfInBounds_toArray, List.set_cons_zero, List.set_cons_succ, Array.toArray_toList]
                  refine wpAnyH_take (i := 9) (oi := { dst := some 114, op := Op.move (Operand.tmp 23), type := 3, pos := "top07w.go:53", after := #[{ on := 6, ground := Ground.guard }], guard := some (6, false) }) (v := undef) rfl (by kernel_rfl) (by kernel_rfl) (by kernel_rfl) (fun _ _ _ h => h) (Or.inr ⟨by rfl, rfl⟩) hS0 ?_
                  simp only [Act.put, List.setIfInBounds_toArray, List.set_cons_zero, List.set_cons_succ, Array.toArray_toList]
                  refine wpAnyH_take (i := 10) (oi := { dst := some 115, op := Op.indexAddr 84 (Operand.tmp 113) (Operand.tmp 114), type := 0, pos := "top07w.go:53", after := #[{ on := 8, ground := Ground.data }, { on := 9, ground := Ground.data }, { on := 6, ground := Ground.guard }], guard := some (6, false) }) (v := undef) rfl (by kernel_rfl) (by kernel_rfl) (by kernel_rfl) (fun _ _ _ h => h) (Or.inr ⟨by rfl, rfl⟩) hS0 ?_
                  simp only [Act.put, List.setIfInBounds_toArray, List.set_cons_zero, List.set_cons_succ, Array.toArray_toList]
                  refine wpAnyH_take (i := 11) (oi := { dst := some 116, op := Op.load 25 (Operand.tmp 115), type := 25, pos := "top07w.go:53", after := #[{ on := 10, ground := Ground.data }, { on := 6, ground := Ground.guard }], guard := some (6, false) }) (v := undef) rfl (by kernel_rfl) (by kernel_rfl) (by kernel_rfl) (fun _ _ _ h => h) (Or.inr ⟨by rfl, rfl⟩) hS0 ?_
                  simp only [Act.put, List.setIfInBounds_toArray, List.set_cons_zero, List.set_cons_succ, Array.toArray_toList]
                  refine wpAnyH_take (i := 12) (oi := { dst := some 117, op := Op.call { callee := Callee.value (Operand.func 57), args := #[Operand.tmp 112, Operand.tmp 116], argTypes := #[77, 25] }, type := 4, pos := "top07w.go:53", after := #[{ on := 7, ground := Ground.data }, { on := 11, ground := Ground.data }, { on := 6, ground := Ground.chain }, { on := 6, ground := Ground.guard }], guard := some (6, false) }) (v := undef) rfl (by kernel_rfl) (by kernel_rfl) (by kernel_rfl) (fun _ _ _ h => h) (Or.inr ⟨by rfl, rfl⟩) hS0 ?_
                  simp only [Act.put, List.setIfInBounds_toArray, List.set_cons_zero, List.set_cons_succ, Array.toArray_toList]
                  refine wpAnyH_take (i := 13) (oi := { dst := some 118, op := Op.unOp UnOp.not 4 (Operand.tmp 117), type := 4, pos := "top07w.go:53", after := #[{ on := 12, ground := Ground.data }, { on := 6, ground := Ground.guard }], guard := some (6, false) }) (v := undef) rfl (by kernel_rfl) (by kernel_rfl) (by kernel_rfl) (fun _ _ _ h => h) (Or.inr ⟨by rfl, rfl⟩) hS0 ?_
                  simp only [Act.put, List.setIfInBounds_toArray, List.set_cons_zero, List.set_cons_succ, Array.toArray_toList]
                  refine wpAnyH_take (i := 14) (oi := { dst := some 119, op := Op.pick (Operand.tmp 111) (Operand.const (Value.bool true)) (Operand.tmp 118), type := 4, pos := "top07w.go:53", after := #[{ on := 6, ground := Ground.data }, { on := 13, ground := Ground.data }], guard := none }) (v := ?_) rfl (by kernel_rfl) (by kernel_rfl) (by kernel_rfl) (fun _ _ _ h => h) (Or.inl ⟨by rfl, ?_⟩) hS0 ?_
                  rotate_left
                  · intro X hX
                    obtain x0 := hX
                    go_simp
                    try with_reducible rfl
                  simp only [Act.put, List.setIfInBounds_toArray, List.set_cons_zero, List.set_cons_succ, Array.toArray_toList]
                  refine wpAnyH_done (by kernel_rfl) ?_ _
                  clear hS0
                  go_wp2_with fail
                  go_roundw
                  case rel => exact ⟨m + 1, by omega, by go_num, by rw [HSTK.out, HTS.out, Bool.or_false], HBE.out.drew⟩
                  case measure => simp [intOf]; omega
              · have hlt' : decide ((m : Int) < (ls.length : Int)) = false := by simpa using hlt
                have hfo : decide (sent ∈ ls.take m) = true := by rw [show m = ls.length by omega, List.take_length]; exact decide_eq_true HIN4.out
                rw [hfo]
                have HFB := Lib.hid HBW.out
                clear hfo
                go_wp2_with fail
                refine (flashed_any _).mono ?_
                rintro e' wz ⟨rfl, hbz⟩
                have HFZ := Lib.hid (HFB.out.trans (hbz.mono HFB.out.size))
                clear hbz
                go_wp2_with fail
                go_ret
                exact ⟨rfl, HFZ.out⟩
    · have hfne : (fv != 0) = true := by simpa using hf0
      have HFB := Lib.hid (HB4.out)
      go_wp2_with fail
      refine (flashed_any _).mono ?_
      rintro e wz ⟨rfl, hbz⟩
      have HFZ := Lib.hid (HFB.out.trans (hbz.mono HFB.out.size))
      clear hbz
      go_wp2_with fail
      go_ret
      exact ⟨rfl, HFZ.out⟩
end Go.Proofs.Ytkloaeaepjoijaa

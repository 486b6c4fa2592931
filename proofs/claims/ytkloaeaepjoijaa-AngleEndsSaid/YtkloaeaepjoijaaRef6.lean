/-
  The reference: Can.
-/
import Derived.Test.YtkloaeaepjoijaaRef4
set_option linter.all false
namespace Go.Proofs.Ytkloaeaepjoijaa
open Go.RowKit Go.WalkArith

theorem shl_at {p : Nat} (hp : p ≤ 5) : wrap64 (2 ^ p) = ((2 ^ p : Nat) : Int) := by
  have key : ∀ y : Fin 6, wrap64 (2 ^ y.1) = ((2 ^ y.1 : Nat) : Int) := by decide +kernel
  exact key ⟨p, by omega⟩

theorem canB_true {l : List Ang} {T C : Int} {lo hi : Int → Int} (h : ∀ t c : Nat, t < 2 ^ T.toNat → c < 2 ^ C.toNat → denyB l.length T C (frL l) (toL l) lo hi t c = false) : canB l T C lo hi = true := by
  unfold canB
  simp only [List.all_eq_true, List.mem_range, Bool.not_eq_true']
  exact fun t ht c hc => h t c ht hc
theorem canB_false {l : List Ang} {T C : Int} {lo hi : Int → Int} {t c : Nat} (ht : t < 2 ^ T.toNat) (hc : c < 2 ^ C.toNat) (h : denyB l.length T C (frL l) (toL l) lo hi t c = true) : canB l T C lo hi = false := by
  cases e : canB l T C lo hi with
  | false => rfl
  | true =>
    unfold canB at e
    simp only [List.all_eq_true, List.mem_range, Bool.not_eq_true'] at e
    rw [e t ht c hc] at h
    cases h

def CORel (l : List Ang) (T C : Int) (lo hi : Int → Int) (w : World) (Bi : Nat) (net : Obj) (i : Value) (wr : World) : Prop :=
  ∃ t : Nat, t ≤ 2 ^ T.toNat ∧ i = .int .i64 t ∧ (∀ t' c' : Nat, t' < t → c' < 2 ^ C.toNat → denyB l.length T C (frL l) (toL l) lo hi t' c' = false) ∧ wr.heap[Bi]? = some net ∧ Below w.heap.size w wr
def CIRel (l : List Ang) (T C : Int) (lo hi : Int → Int) (t : Nat) (w : World) (Bi : Nat) (net : Obj) (i : Value) (wr : World) : Prop :=
  ∃ c : Nat, c ≤ 2 ^ C.toNat ∧ i = .int .i64 c ∧ (∀ c' : Nat, c' < c → denyB l.length T C (frL l) (toL l) lo hi t c' = false) ∧ wr.heap[Bi]? = some net ∧ Below w.heap.size w wr

set_option maxRecDepth 100000 in
set_option maxHeartbeats 4000000 in
theorem refCan_any (b o n cap : Nat) (T C : Int) (l : List Ang) (rv : Value) (lo hi : Int → Int) (w : World) (hl : l.length = n) (hok : NetOk l T C) (hA : AngsAt w (some ⟨b, o, none⟩) l) (hr : RangesAt w rv n lo hi) (hro : RoomsOk n lo hi) :
    Calls Try.prog 77 #[.agg #[.slice (some ⟨b, o, none⟩) n cap, .int .i64 T, .int .i64 C], rv] w fun e w' => e = .returned (.bool (canB l T C lo hi)) ∧ Below w.heap.size w w' := by
  obtain ⟨p, rfl⟩ : ∃ p : Nat, T = p := ⟨T.toNat, by have := hok.t0; omega⟩
  obtain ⟨q, rfl⟩ : ∃ q : Nat, C = q := ⟨C.toNat, by have := hok.c0; omega⟩
  have p5 : p ≤ 5 := by have := hok.t1; omega
  have q5 : q ≤ 5 := by have := hok.c1; omega
  have hB : Below w.heap.size w (w.alloc (.cells #[.slice (some ⟨b, o, none⟩) n cap, .int .i64 p, .int .i64 q] 24)) := (Below.refl _ _).alloc (Nat.le_refl _) _
  have hn0 := Go.heap_alloc_new w (.cells #[.slice (some ⟨b, o, none⟩) n cap, .int .i64 p, .int .i64 q] 24)
  obtain ⟨Ar, rcap, rfl, hrc⟩ := hr
  have hr2 : RangesAt w (.slice Ar n rcap) n lo hi := ⟨Ar, rcap, rfl, hrc⟩
  have HB := Lib.hid hB
  have HN := Lib.hid hn0
  have HR := Lib.hid hr2
  have HA := Lib.hid hA
  have HL := Lib.hid hl
  have HO := Lib.hid hok
  have HRO := Lib.hid hro
  clear hB hn0 hr2 hrc hA hl hok hro
  have P0 : 2 ^ p ≤ 32 := Nat.pow_le_pow_right (n := 2) (by omega) p5
  have Q0 : 2 ^ q ≤ 32 := Nat.pow_le_pow_right (n := 2) (by omega) q5
  have hsp := shl_at p5
  have hsq := shl_at q5
  obtain ⟨P, hP⟩ : ∃ P : Nat, 2 ^ p = P := ⟨_, rfl⟩
  obtain ⟨Q, hQ⟩ : ∃ Q : Nat, 2 ^ q = Q := ⟨_, rfl⟩
  rw [hP] at P0 hsp
  rw [hQ] at Q0 hsq
  have HP := Lib.hid hP
  have HQ := Lib.hid hQ
  clear hP hQ
  go_enter Try.func77, Try.ntmps77
  go_wp2_with fail
  generalize w.alloc (.cells #[.slice (some ⟨b, o, none⟩) n cap, .int .i64 p, .int .i64 q] 24) = w1 at HB HN ⊢
  obtain ⟨Bi, hBi⟩ : ∃ Bi, w.heap.size = Bi := ⟨_, rfl⟩
  rw [hBi] at HN ⊢
  clear hBi
  go_loopw [5] (CORel l p q lo hi w Bi (.cells #[.slice (some ⟨b, o, none⟩) n cap, .int .i64 p, .int .i64 q] 24 (0, 0))) (fun i _ => P - (intOf i).toNat)
  case atStart => exact ⟨0, Nat.zero_le _, rfl, fun t' c' h _ => by omega, HN.out, HB.out⟩
  case round =>
    clear HB HN
    obtain ⟨t, ht, rfl, hno, hI, hBe⟩ := hrel
    have ht2 : t ≤ P := by rw [← HP.out]; simpa using ht
    have x1 : wr.cell? ⟨Bi, 1, none⟩ = some (.int .i64 p) := by simp [World.cell?, hI]
    have HNO := Lib.hid hno
    have HI := Lib.hid hI
    have HBe := Lib.hid hBe
    clear hno hI hBe ht
    by_cases hlt : t < P
    · have hlt' : decide ((t : Int) < (P : Int)) = true := by simpa using hlt
      go_wp2_with fail
      rw [hsp]
      go_loopw [6] (CIRel l p q lo hi t w Bi (.cells #[.slice (some ⟨b, o, none⟩) n cap, .int .i64 p, .int .i64 q] 24 (0, 0))) (fun i _ => Q - (intOf i).toNat)
      case atStart => exact ⟨0, Nat.zero_le _, rfl, fun c' h => by omega, HI.out, HBe.out⟩
      case round =>
        clear HBe HI
        obtain ⟨c, hc, rfl, hno2, hI, hBe⟩ := hrel
        have hc2 : c ≤ Q := by rw [← HQ.out]; simpa using hc
        have x0 : wr.cell? ⟨Bi, 0, none⟩ = some (.slice (some ⟨b, o, none⟩) n cap) := by simp [World.cell?, hI]
        have x1 : wr.cell? ⟨Bi, 1, none⟩ = some (.int .i64 p) := by simp [World.cell?, hI]
        have x2 : wr.cell? ⟨Bi, 2, none⟩ = some (.int .i64 q) := by simp [World.cell?, hI]
        have HNO2 := Lib.hid hno2
        have HI := Lib.hid hI
        have HBe := Lib.hid hBe
        clear hno2 hI hBe hc
        by_cases hltc : c < Q
        · have hltc' : decide ((c : Int) < (Q : Int)) = true := by simpa using hltc
          have htp : t < 2 ^ (p : Int).toNat := by rw [Int.toNat_natCast, HP.out]; exact hlt
          have hcq : c < 2 ^ (q : Int).toNat := by rw [Int.toNat_natCast, HQ.out]; exact hltc
          have hdn := Lib.hid (refDenies_any b o n cap p q l (.slice Ar n rcap) lo hi t c wr HL.out HO.out (HA.out.keep HBe.out (Nat.le_refl _)) (HR.out.keep HBe.out (Nat.le_refl _)) HRO.out htp hcq)
          cases hd : denyB n p q (frL l) (toL l) lo hi t c with
          | true =>
            have hcf := Lib.hid (canB_false htp hcq (by rw [HL.out]; exact hd))
            clear htp hcq
            have HD := Lib.hid hd
            clear hd
            go_wp2_with fail
            refine hdn.out.mono ?_
            rw [HD.out]
            rintro e w2 ⟨rfl, hb2⟩
            have hB2 := Lib.hid (HBe.out.trans (hb2.mono HBe.out.size))
            clear hb2 hdn
            go_wp2_with fail
            go_ret
            exact ⟨by rw [hcf.out]; rfl, hB2.out⟩
          | false =>
            clear htp hcq
            have HD := Lib.hid hd
            clear hd
            go_wp2_with fail
            refine hdn.out.mono ?_
            rw [HD.out]
            rintro e w2 ⟨rfl, hb2⟩
            have hB2 := Lib.hid (HBe.out.trans (hb2.mono HBe.out.size))
            have hI2 := Lib.hid ((hb2.block Bi (Array.getElem?_eq_some_iff.1 HI.out).1).trans HI.out)
            clear hb2 hdn
            go_wp2_with fail
            go_roundw
            case rel => exact ⟨c + 1, by rw [Int.toNat_natCast, HQ.out]; omega, by go_num, fun c' hc' => by
              by_cases e : c' = c
              · rw [e, HL.out]; exact HD.out
              · exact HNO2.out c' (by omega), hI2.out, hB2.out⟩
            case measure => simp [intOf]; omega
        · have hltc' : decide ((c : Int) < (Q : Int)) = false := by simpa using hltc
          go_wp2_with fail
          go_roundw
          case rel => exact ⟨t + 1, by rw [Int.toNat_natCast, HP.out]; omega, by go_num, fun t' c' h1 h2 => by
            by_cases e : t' = t
            · rw [e]; exact HNO2.out c' (by rw [Int.toNat_natCast, HQ.out] at h2; omega)
            · exact HNO.out t' c' (by omega) h2, HI.out, HBe.out⟩
          case measure => simp [intOf]; omega
    · have hlt' : decide ((t : Int) < (P : Int)) = false := by simpa using hlt
      have hct : canB l p q lo hi = true := canB_true (fun t' c' h1 h2 => HNO.out t' c' (by rw [Int.toNat_natCast, HP.out] at h1; omega) h2)
      have HCT := Lib.hid hct
      clear hct
      go_wp2_with fail
      go_ret
      exact ⟨by rw [HCT.out]; rfl, HBe.out⟩
end Go.Proofs.Ytkloaeaepjoijaa

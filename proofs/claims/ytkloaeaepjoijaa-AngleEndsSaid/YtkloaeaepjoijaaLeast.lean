/-
  Least, Show.
-/
import Derived.Test.YtkloaeaepjoijaaAsks
set_option linter.all false
namespace Go.Proofs.Ytkloaeaepjoijaa
open Go.RowKit Go.WalkArith

/-- The first number from one on that passes. -/
def firstFrom (p : Nat → Bool) : Nat → Nat → Option Nat
  | 0, _ => none
  | f + 1, k => if p k then some k else firstFrom p f (k + 1)

theorem firstFrom_skip {p : Nat → Bool} {m : Nat} : ∀ k, k ≤ m → (∀ j, j < k → p j = false) → firstFrom p m 0 = firstFrom p (m - k) k := by
  intro k
  induction k with
  | zero => intro _ _; rfl
  | succ k ih =>
    intro hk h
    rw [ih (by omega) (fun j hj => h j (by omega)), show m - k = (m - (k + 1)) + 1 by omega]
    simp [firstFrom, h k (by omega)]

theorem firstFrom_none {p : Nat → Bool} {m : Nat} (h : ∀ j, j < m → p j = false) : firstFrom p m 0 = none := by
  rw [firstFrom_skip m (Nat.le_refl _) h, Nat.sub_self]; rfl
theorem firstFrom_some {p : Nat → Bool} {m k : Nat} (hk : k < m) (h : ∀ j, j < k → p j = false) (hp : p k = true) : firstFrom p m 0 = some k := by
  rw [firstFrom_skip k (by omega) h, show m - k = (m - (k + 1)) + 1 by omega]; simp [firstFrom, hp]

/-- The smallest error. -/
def leastO (l : List Ang) (T C : Int) : Option Nat := firstFrom (fun e => canE l T C e []) 41 0
def leastN (l : List Ang) (T C : Int) : Int := if faultL l T C ≠ 0 then 0 else match leastO l T C with | some e => (e : Int) | none => 0
def leastE (l : List Ang) (T C : Int) : Int := if faultL l T C ≠ 0 then faultL l T C else match leastO l T C with | some _ => 0 | none => 9

def LeastRel (l : List Ang) (T C : Int) (n cap : Nat) (A : Option Addr) (Bn : Nat) (w : World) (i : Value) (wr : World) : Prop :=
  ∃ k : Nat, k ≤ 41 ∧ i = .int .i64 k ∧ (∀ j : Nat, j < k → canE l T C j [] = false) ∧ Below w.heap.size w wr ∧ wr.heap[Bn]? = some (.cells #[.slice A n cap, .int .i64 T, .int .i64 C] 33 (0, 0))

set_option maxRecDepth 100000 in
set_option maxHeartbeats 2000000 in
theorem least_any (A : Option Addr) (n cap : Nat) (T C : Int) (l : List Ang) (w : World) (hn : n ≤ 1000000) (hl : l.length = n) (hA : AngsAt w A l) :
    Calls Try.prog 32 #[.agg #[.slice A n cap, .int .i64 T, .int .i64 C]] w fun e w' => e = .returned (.tuple #[.int .i64 (leastN l T C), .int .i64 (leastE l T C)]) ∧ Below w.heap.size w w' := by
  have hB : Below w.heap.size w (w.alloc (.cells #[.slice A n cap, .int .i64 T, .int .i64 C] 33)) := (Below.refl _ _).alloc (Nat.le_refl _) _
  have hck := Lib.hid (checkNet_any A n cap T C l _ hn hl (hA.keep hB (Nat.le_refl _)))
  have HB := Lib.hid hB
  by_cases hf : faultL l T C = 0
  · have hok := faultL_zero.1 hf
    obtain ⟨b, o, rfl⟩ := hA.some hok.pos
    have HA := Lib.hid hA
    have HO := Lib.hid hok
    have HL := Lib.hid hl
    rw [hf] at hck
    have HAS := Lib.hid hf
    have n0 := Lib.hid (Go.heap_alloc_new w (.cells #[.slice (some ⟨b, o, none⟩) n cap, .int .i64 T, .int .i64 C] 33))
    clear hB hA hl hok hf
    go_enter Try.func32, Try.ntmps32
    go_wp2_with fail
    refine hck.out.mono ?_
    rintro e w1 ⟨rfl, hb1⟩
    have hB1 : Below w.heap.size w w1 := HB.out.trans (hb1.mono HB.out.size)
    have n1 := Lib.hid ((hb1.block w.heap.size (by simp)).trans n0.out)
    have HB1 := Lib.hid hB1
    clear hb1 hB1 hck n0 HB
    go_wp2_with fail
    obtain ⟨Bn, hBn⟩ : ∃ Bn, w.heap.size = Bn := ⟨_, rfl⟩
    have hBn' : w.heap.size ≤ Bn := by omega
    rw [hBn] at n1 ⊢
    clear hBn
    go_loopw [11] (LeastRel l T C n cap (some ⟨b, o, none⟩) Bn w) (fun i _ => 41 - (intOf i).toNat)
    case atStart => exact ⟨0, by omega, rfl, fun j h => by omega, HB1.out, n1.out⟩
    case round =>
      clear HB1 n1
      obtain ⟨k, hk, rfl, hno, hBr, hnr⟩ := hrel
      have HNO := Lib.hid hno
      have HBR := Lib.hid hBr
      clear hno hBr
      by_cases hlt : k < 41
      · have hlt' : decide ((k : Int) < 41) = true := by simp; omega
        have c0 : wr.cell? ⟨Bn, 0, none⟩ = some (.slice (some ⟨b, o, none⟩) n cap) := by simp [World.cell?, hnr]
        have c1 : wr.cell? ⟨Bn, 1, none⟩ = some (.int .i64 T) := by simp [World.cell?, hnr]
        have c2 : wr.cell? ⟨Bn, 2, none⟩ = some (.int .i64 C) := by simp [World.cell?, hnr]
        have hnl := (Array.getElem?_eq_some_iff.1 hnr).1
        have HNR := Lib.hid hnr
        clear hnr
        have hr := Lib.hid (rooms_any b o n cap T C l k (.slice none 0 0) [] wr.drew HL.out HO.out (HA.out.keep HBR.out.drew (Nat.le_refl _)) (by omega) (by omega) (IntsAt.nil _) (by simp))
        cases hcan : canE l T C k [] with
        | true =>
          go_wp2_with fail
          go_region_held3 (fun X => X.cell? ⟨Bn, 0, none⟩ = some (.slice (some ⟨b, o, none⟩) n cap) ∧ X.cell? ⟨Bn, 1, none⟩ = some (.int .i64 T) ∧ X.cell? ⟨Bn, 2, none⟩ = some (.int .i64 C))
            (first | go_keep | exact ⟨cell_later hb2 c0, cell_later hb2 c1, cell_later hb2 c2⟩ | exact ⟨cell_later hb3 (cell_later hb2 c0), cell_later hb3 (cell_later hb2 c1), cell_later hb3 (cell_later hb2 c2)⟩)
            (first | (go_at_call 67; refine hr.out.mono ?_; rintro e w2 ⟨rs, rfl, hrs, hb2⟩) | (go_at_call 76; refine (canE_any b o n cap T C k l rs [] w2 HL.out HO.out (HA.out.keep (HBR.out.drew.trans (hb2.mono HBR.out.drew.size)) (Nat.le_refl _)) (by omega) hrs).mono ?_; rintro e w3 ⟨rfl, hb3⟩))
          have hB3 : Below w.heap.size w w3 := (HBR.out.drew.trans (hb2.mono HBR.out.drew.size)).trans (hb3.mono (HBR.out.drew.trans (hb2.mono HBR.out.drew.size)).size)
          have hlo : leastO l T C = some k := firstFrom_some hlt HNO.out hcan
          have hf1 : leastN l T C = k := by unfold leastN; rw [if_neg (by rw [HAS.out]; simp), hlo]
          have hf2 : leastE l T C = 0 := by unfold leastE; rw [if_neg (by rw [HAS.out]; simp), hlo]
          have HF1 := Lib.hid hf1
          have HF2 := Lib.hid hf2
          clear hf1 hf2 hlo
          go_wp2_with fail
          go_ret2
          exact ⟨by rw [HF1.out, HF2.out]; rfl, hB3⟩
        | false =>
          go_wp2_with fail
          go_region_held3 (fun X => X.cell? ⟨Bn, 0, none⟩ = some (.slice (some ⟨b, o, none⟩) n cap) ∧ X.cell? ⟨Bn, 1, none⟩ = some (.int .i64 T) ∧ X.cell? ⟨Bn, 2, none⟩ = some (.int .i64 C))
            (first | go_keep | exact ⟨cell_later hb2 c0, cell_later hb2 c1, cell_later hb2 c2⟩ | exact ⟨cell_later hb3 (cell_later hb2 c0), cell_later hb3 (cell_later hb2 c1), cell_later hb3 (cell_later hb2 c2)⟩)
            (first | (go_at_call 67; refine hr.out.mono ?_; rintro e w2 ⟨rs, rfl, hrs, hb2⟩) | (go_at_call 76; refine (canE_any b o n cap T C k l rs [] w2 HL.out HO.out (HA.out.keep (HBR.out.drew.trans (hb2.mono HBR.out.drew.size)) (Nat.le_refl _)) (by omega) hrs).mono ?_; rintro e w3 ⟨rfl, hb3⟩))
          have hB3 : Below wr.drew.heap.size wr.drew w3 := hb2.trans (hb3.mono hb2.size)
          have hn3 := Lib.hid ((hB3.block Bn hnl).trans HNR.out)
          have hB4 := Lib.hid (HBR.out.drew.trans (hB3.mono HBR.out.size))
          have HC := Lib.hid hcan
          clear hB3 hb2 hb3 hcan
          go_wp2_with fail
          go_roundw
          case rel => exact ⟨k + 1, by omega, by go_num, fun j hj => by
            by_cases e : j = k
            · subst e; exact HC.out
            · exact HNO.out j (by omega), hB4.out, hn3.out⟩
          case measure => simp [intOf]; omega
      · have hlt' : decide ((k : Int) < 41) = false := by simp; omega
        have hlo : leastO l T C = none := firstFrom_none (fun j hj => HNO.out j (by omega))
        have hf1 : leastN l T C = 0 := by unfold leastN; rw [if_neg (by rw [HAS.out]; simp), hlo]
        have hf2 : leastE l T C = 9 := by unfold leastE; rw [if_neg (by rw [HAS.out]; simp), hlo]
        have HF1 := Lib.hid hf1
        have HF2 := Lib.hid hf2
        clear hf1 hf2 hlo hnr
        go_wp2_with fail
        go_ret2
        exact ⟨by rw [HF1.out, HF2.out]; rfl, HBR.out⟩
  · have hf1 : leastN l T C = 0 := by unfold leastN; rw [if_pos hf]
    have hf2 : leastE l T C = faultL l T C := by unfold leastE; rw [if_pos hf]
    have HF1 := Lib.hid hf1
    have HF2 := Lib.hid hf2
    have hne : (faultL l T C != 0) = true := by simpa using hf
    clear hf1 hf2 hf hB hA hl
    go_enter Try.func32, Try.ntmps32
    go_wp2_with (go_at_call 26; refine hck.out.mono ?_; rintro e w' ⟨rfl, hb1⟩)
    go_ret2
    exact ⟨by rw [HF1.out, HF2.out]; rfl, HB.out.trans (hb1.mono HB.out.size)⟩
end Go.Proofs.Ytkloaeaepjoijaa

/-
  Leave.
-/
import Derived.Test.YtkloaeaepjoijaaLeave
import Derived.Outline
set_option linter.all false
namespace Go.Proofs.Ytkloaeaepjoijaa
open Go.RowKit Go.WalkArith

/-- The smallest set of readings that can be left out. -/
def leaveO (l : List Ang) (T C err : Int) : Option (List Int) := firstSome (fun m => leaveF (canE l T C err) l.length m [] 0) (l.length + 1) 0

def LeavePost (l : List Ang) (T C err : Int) (w : World) (e : Ending) (w' : World) : Prop :=
  Below w.heap.size w w' ∧ ((askedL l T C err ≠ 0 ∧ e = .returned (.tuple #[.slice none 0 0, .int .i64 (askedL l T C err)])) ∨
    (askedL l T C err = 0 ∧ leaveO l T C err = none ∧ e = .returned (.tuple #[.slice none 0 0, .int .i64 9])) ∨
    (askedL l T C err = 0 ∧ ∃ xs v, leaveO l T C err = some xs ∧ e = .returned (.tuple #[v, .int .i64 0]) ∧ w'.ownsRow w.heap.size 3 1 v xs.length (xs.map (Value.int .i64))))

theorem LEnv.below {W0 w W : World} {Bo : Nat} {v : Value} {out : List Int} (h : LEnv W0 Bo W v out) (hbo : w.heap.size ≤ Bo) (hb : Below w.heap.size w W0) : Below w.heap.size w W :=
  ⟨h.os.trans hb.os, h.tape.trans hb.tape, h.output.trans hb.output, Nat.le_trans hb.size h.size, fun k hk => (h.same k (Nat.lt_of_lt_of_le hk hb.size) (by omega)).trans (hb.block k hk)⟩

def SRel (W0 : World) (Bo n : Nat) (f : Nat → Option (List Int)) (s9 i : Value) (wr : World) : Prop :=
  ∃ k : Nat, k ≤ n + 1 ∧ i = .int .i64 k ∧ s9 = .bool false ∧ (∀ j, j < k → f j = none) ∧ ∃ v, LEnv W0 Bo wr v []

set_option maxRecDepth 100000 in
set_option maxHeartbeats 4000000 in
theorem leaveAll_any (A : Option Addr) (n cap : Nat) (T C err : Int) (l : List Ang) (w : World) (hn : n ≤ 1000000) (hl : l.length = n) (hA : AngsAt w A l) :
    Calls Try.prog 43 #[.agg #[.slice A n cap, .int .i64 T, .int .i64 C], .int .i64 err] w (LeavePost l T C err w) := by
  have hB : Below w.heap.size w ((w.alloc (.cells #[.slice A n cap, .int .i64 T, .int .i64 C] 33)).alloc (.cells #[.int .i64 err] 3)) := ((Below.refl _ _).alloc (Nat.le_refl _) _).alloc (by simp) _
  have hck := Lib.hid (asked_any A n cap T C err l _ hn hl (hA.keep hB (Nat.le_refl _)))
  have HB := Lib.hid hB
  by_cases hf : askedL l T C err = 0
  · obtain ⟨hok, he0, he1⟩ := askedL_ok hf
    obtain ⟨b, o, rfl⟩ := hA.some hok.pos
    have HA := Lib.hid hA
    have HO := Lib.hid hok
    have HL := Lib.hid hl
    have HS0 := Lib.hid hf
    rw [hf] at hck
    have n0 : ((w.alloc (.cells #[.slice (some ⟨b, o, none⟩) n cap, .int .i64 T, .int .i64 C] 33)).alloc (.cells #[.int .i64 err] 3)).heap[w.heap.size]? = some (.cells #[.slice (some ⟨b, o, none⟩) n cap, .int .i64 T, .int .i64 C] 33 (0, 0)) := (Below.heap_alloc _ _ _ (by simp)).trans (heap_new_at _ _ _ rfl)
    have n1 := heap_alloc2 w (.cells #[.slice (some ⟨b, o, none⟩) n cap, .int .i64 T, .int .i64 C] 33) (.cells #[.int .i64 err] 3)
    have N0 := Lib.hid n0
    have N1 := Lib.hid n1
    have hn12 : n ≤ 12 := by rw [← hl]; exact hok.len
    clear hB hA hl hok hf n0 n1
    go_enter Try.func43, Try.ntmps43
    go_wp2_with fail
    go_step3
    go_wp2_with fail
    refine hck.out.mono ?_
    rintro e w1 ⟨rfl, hb1⟩
    have hB1 : Below w.heap.size w w1 := HB.out.trans (hb1.mono HB.out.size)
    have hs1 : w.heap.size + 2 ≤ w1.heap.size := by have := hb1.size; simp at this; omega
    have m0 := (hb1.block w.heap.size (by simp; omega)).trans N0.out
    have m1 := (hb1.block (w.heap.size + 1) (by simp)).trans N1.out
    have c0 : w1.cell? ⟨w.heap.size, 0, none⟩ = some (.slice (some ⟨b, o, none⟩) n cap) := by simp [World.cell?, m0]
    have HB1 := Lib.hid hB1
    have M0 := Lib.hid m0
    have M1 := Lib.hid m1
    clear hb1 hB1 m0 m1 N0 N1 HB hck
    obtain ⟨W0, hW0⟩ : ∃ W0, (w1.alloc (.cells #[.slice none 0 0] 25)).alloc (.cells #[.func (.func 82) #[] #[.pointer (some ⟨w.heap.size, 0, none⟩), .pointer (some ⟨w.heap.size + 1, 0, none⟩), .pointer (some ⟨w1.heap.size, 0, none⟩), .pointer (some ⟨w1.heap.size + 1, 0, none⟩)]] 124) = W0 := ⟨_, rfl⟩
    have hBW : Below w1.heap.size w1 W0 := by rw [← hW0]; exact ((Below.refl _ _).alloc (Nat.le_refl _) _).alloc (by simp) _
    have hO : W0.heap[w1.heap.size]? = some (.cells #[.slice none 0 0] 25 (0, 0)) := by rw [← hW0]; exact (Below.heap_alloc _ _ _ (by simp)).trans (heap_new_at _ _ _ rfl)
    have hF : W0.heap[w1.heap.size + 1]? = some (.cells #[.func (.func 82) #[] #[.pointer (some ⟨w.heap.size, 0, none⟩), .pointer (some ⟨w.heap.size + 1, 0, none⟩), .pointer (some ⟨w1.heap.size, 0, none⟩), .pointer (some ⟨w1.heap.size + 1, 0, none⟩)]] 124 (0, 0)) := by rw [← hW0]; exact heap_alloc2 _ _ _
    have hszW : W0.heap.size = w1.heap.size + 2 := by rw [← hW0]; simp
    have HW0 := Lib.hid hW0
    have hcap : LCap W0 w.heap.size (w.heap.size + 1) w1.heap.size (w1.heap.size + 1) b o n cap T C err l :=
      ⟨(hBW.block _ (by omega)).trans M0.out, (hBW.block _ (by omega)).trans M1.out, hF, by omega, by omega, by omega, by omega, fun X hX => by
        have hA1 := HA.out
        have hpos := HO.out.pos
        obtain ⟨b', o', hAe, hAs⟩ := hA1.resolve_left (fun h => by rw [h] at hpos; simp at hpos)
        obtain ⟨rfl, rfl⟩ : b = b' ∧ o = o' := by simpa using hAe
        have hbl : b < w.heap.size := World.block_lt_of_cell? w _ (hAs 0 hpos).1
        have hblk : X.heap[b]? = w.heap[b]? := (hX b (by omega) (by omega)).trans ((hBW.block b (by omega)).trans (HB1.out.block b hbl))
        refine .inr ⟨b, o, rfl, fun i hi => ?_⟩
        have hc := fun j => World.cell?_of_block (a := ⟨b, j, none⟩) hblk
        have hak := hAs i hi
        exact ⟨(hc _).trans hak.1, (hc _).trans hak.2.1, (hc _).trans hak.2.2.1, (hc _).trans hak.2.2.2⟩⟩
    have hE0 : LEnv W0 w1.heap.size W0 (.slice none 0 0) [] := ⟨rfl, rfl, rfl, Nat.le_refl _, fun _ _ _ => rfl, hO, World.ownsRow_nil _ _ _ _⟩
    have HCP := Lib.hid hcap
    have HE0 := Lib.hid hE0
    have HBW := Lib.hid hBW
    clear hW0 hBW hO hF hcap hE0
    go_wp2_with fail
    go_step3
    rw [HW0.out]
    have x0 : W0.cell? ⟨w.heap.size, 0, none⟩ = some (.slice (some ⟨b, o, none⟩) n cap) := by simp [World.cell?, HCP.out.net]
    go_wp2_with fail
    clear HW0
    obtain ⟨Bo, hBo⟩ : ∃ Bo, w1.heap.size = Bo := ⟨_, rfl⟩
    obtain ⟨Bl, hBl⟩ : ∃ Bl, w1.heap.size + 1 = Bl := ⟨_, rfl⟩
    obtain ⟨Be, hBe⟩ : ∃ Be, w.heap.size + 1 = Be := ⟨_, rfl⟩
    obtain ⟨Bn, hBn⟩ : ∃ Bn, w.heap.size = Bn := ⟨_, rfl⟩
    rw [hBl, hBe] at HCP ⊢
    rw [hBn] at HCP x0 ⊢
    have hbo : w.heap.size ≤ Bo := by omega
    rw [hBo] at HCP HE0 ⊢
    obtain ⟨f, hf⟩ : ∃ f : Nat → Option (List Int), (fun m => leaveF (canE l T C err) n m [] 0) = f := ⟨_, rfl⟩
    have HF := Lib.hid hf
    have hlo : leaveO l T C err = firstSome f (n + 1) 0 := by rw [← hf]; unfold leaveO; rw [HL.out]
    have HLO := Lib.hid hlo
    clear hf hlo hBl hBe hBn hBo M0 M1 c0
    go_loopw [9, 22] (SRel W0 Bo n f) (fun _ i _ => n + 1 - (intOf i).toNat)
    case atStart => exact ⟨0, by omega, rfl, rfl, fun j h => by omega, _, HE0.out⟩
    case round =>
      obtain ⟨k, hk, rfl, rfl, hno, v1, hE⟩ := hrel
      have HNO := Lib.hid hno
      have lL := (Array.getElem?_eq_some_iff.1 HCP.out.fn).1
      have hfn := (hE.same Bl lL HCP.out.n3).trans HCP.out.fn
      have d5 : wr.cell? ⟨Bl, 0, none⟩ = some (.func (.func 82) #[] #[.pointer (some ⟨Bn, 0, none⟩), .pointer (some ⟨Be, 0, none⟩), .pointer (some ⟨Bo, 0, none⟩), .pointer (some ⟨Bl, 0, none⟩)]) := by simp [World.cell?, hfn]
      have HE := Lib.hid hE
      clear hno hE hfn
      by_cases hlt : k < n + 1
      · have hlt' : decide ((k : Int) < (n : Int) + 1) = true := by simp; omega
        have hcall : Calls Try.prog 82 #[.int .i64 0, .int .i64 k, .pointer (some ⟨Bn, 0, none⟩), .pointer (some ⟨Be, 0, none⟩), .pointer (some ⟨Bo, 0, none⟩), .pointer (some ⟨Bl, 0, none⟩)] wr (LPost W0 Bo [] (f k)) := by
          have h := leave_any W0 Bn Be Bo Bl b o n cap T C err l HCP.out HL.out HO.out he0 he1 k 0 [] v1 wr (by omega) (by omega) (by simp; omega) HE.out
          rw [← HF.out]
          exact h
        have HCALL := Lib.hid hcall
        clear hcall
        go_wp2_with fail
        refine HCALL.out.mono ?_
        rintro e w3 ⟨rfl, v3, hE3⟩
        cases hfk : f k with
        | some xs =>
          rw [hfk] at hE3
          have hr : leaveO l T C err = some xs := by rw [HLO.out]; exact firstSome_some (by omega) (by omega) (fun j _ h => HNO.out j h) hfk
          have c3 : w3.cell? ⟨Bo, 0, none⟩ = some v3 := by have := hE3.cell; simp [World.cell?, this]
          have hfin : LeavePost l T C err w (.returned (.tuple #[v3, .int .i64 0])) w3 := ⟨hE3.below hbo (HB1.out.trans (HBW.out.mono HB1.out.size)), .inr (.inr ⟨HS0.out, xs, v3, hr, rfl, hE3.own.lower (by have := HB1.out.size; have := HBW.out.size; omega)⟩)⟩
          have HFIN := Lib.hid hfin
          clear hr hfk hE3 hfin
          go_wp2_with fail
          rw [Exit.noGoto_ret]
          go_ret2
          exact HFIN.out
        | none =>
          rw [hfk] at hE3
          have HFK := Lib.hid hfk
          have HE3 := Lib.hid hE3
          clear hfk hE3
          go_wp2_with fail
          go_roundw
          case rel => exact ⟨k + 1, by omega, by go_num, rfl, (fun j h => by
            by_cases e : j = k
            · rw [e]; exact HFK.out
            · exact HNO.out j (by omega)), v3, HE3.out⟩
          case measure => simp [intOf]; omega
      · have hlt' : decide ((k : Int) < (n : Int) + 1) = false := by simp; omega
        have hr : leaveO l T C err = none := by rw [HLO.out]; exact firstSome_none (fun j _ h => HNO.out j (by omega))
        have hfin : LeavePost l T C err w (.returned (.tuple #[.slice none 0 0, .int .i64 9])) wr := ⟨HE.out.below hbo (HB1.out.trans (HBW.out.mono HB1.out.size)), .inr (.inl ⟨HS0.out, hr, rfl⟩)⟩
        have HFIN := Lib.hid hfin
        clear hr hfin
        go_wp2_with fail
        first | rw [Exit.noGoto_ret] | skip
        go_ret2
        exact HFIN.out
  · have hne : (askedL l T C err != 0) = true := by simpa using hf
    have HN := Lib.hid hf
    clear hf hB hA hl
    go_enter Try.func43, Try.ntmps43
    go_wp2_with fail
    go_step3
    go_wp2_with (go_at_call 66; refine hck.out.mono ?_; rintro e w' ⟨rfl, hb1⟩)
    rw [Exit.noGoto_ret]
    go_ret2
    exact ⟨HB.out.trans (hb1.mono HB.out.size), .inl ⟨HN.out, rfl⟩⟩
end Go.Proofs.Ytkloaeaepjoijaa

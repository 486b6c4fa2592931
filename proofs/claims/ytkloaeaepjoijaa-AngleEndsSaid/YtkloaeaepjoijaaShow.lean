/-
  Show.
-/
import Derived.Test.YtkloaeaepjoijaaLeast
set_option linter.all false
namespace Go.Proofs.Ytkloaeaepjoijaa
open Go.RowKit Go.WalkArith

/-- A truth within an error. -/
def TruthE (l : List Ang) (T C err : Int) (out : List Int) (x : Int → Int) : Prop := TruthN l.length T C (frL l) (toL l) (roomLo l err out) (roomHi l err out) x

theorem truth_yes (b o n cap : Nat) (T C err : Int) (l : List Ang) (rs : Array Value) (w : World) (hl : l.length = n) (hok : NetOk l T C) (hA : AngsAt w (some ⟨b, o, none⟩) l) (he0 : 0 ≤ err) (hrs : RoomsV rs (roomLo l err []) (roomHi l err [])) (hc : canE l T C err [] = true) :
    Calls Try.prog 80 #[.agg #[.slice (some ⟨b, o, none⟩) n cap, .int .i64 T, .int .i64 C], .agg rs] w fun e w' => ∃ (v : Value) (x : Int → Int), e = .returned (.tuple #[v, .bool true]) ∧ w'.ownsRow w.heap.size 3 1 v n ((List.range n).map fun i : Nat => .int .i64 (x i)) ∧ TruthE l T C err [] x ∧ Below w.heap.size w w' := by
  refine (truth_any b o n cap T C l rs _ _ w hl hok hA hrs (hl ▸ rooms_ok hok he0 [])).mono ?_
  rintro e w' ⟨hb, ⟨rfl, m, hm, hd⟩ | ⟨v, x, rfl, ho, ht⟩⟩
  · have : canE l T C err [] = false := canB_of_denied hok hm (by rw [hl]; exact hd)
    rw [hc] at this; cases this
  · exact ⟨v, x, rfl, ho, by unfold TruthE; rw [hl]; exact ht, hb⟩

theorem truth_no (b o n cap : Nat) (T C err : Int) (l : List Ang) (rs : Array Value) (w : World) (hl : l.length = n) (hok : NetOk l T C) (hA : AngsAt w (some ⟨b, o, none⟩) l) (he0 : 0 ≤ err) (hrs : RoomsV rs (roomLo l err []) (roomHi l err [])) (hc : canE l T C err [] = false) :
    Calls Try.prog 80 #[.agg #[.slice (some ⟨b, o, none⟩) n cap, .int .i64 T, .int .i64 C], .agg rs] w fun e w' => e = .returned (.tuple #[.slice none 0 0, .bool false]) ∧ Below w.heap.size w w' := by
  refine (truth_any b o n cap T C l rs _ _ w hl hok hA hrs (hl ▸ rooms_ok hok he0 [])).mono ?_
  rintro e w' ⟨hb, ⟨rfl, m, hm, hd⟩ | ⟨v, x, rfl, ho, ht⟩⟩
  · exact ⟨rfl, hb⟩
  · have : canE l T C err [] = true := canB_of_truth hok (by rw [hl]; exact ht)
    rw [hc] at this; cases this

/-- What Show hands back. -/
def ShowPost (l : List Ang) (T C err : Int) (w : World) (e : Ending) (w' : World) : Prop :=
  Below w.heap.size w w' ∧ ((sureL l T C err ≠ 0 ∧ e = .returned (.tuple #[.slice none 0 0, .int .i64 (sureL l T C err)])) ∨
    (sureL l T C err = 0 ∧ ∃ (v : Value) (x : Int → Int), e = .returned (.tuple #[v, .int .i64 0]) ∧ w'.ownsRow w.heap.size 3 1 v l.length ((List.range l.length).map fun i : Nat => .int .i64 (x i)) ∧ TruthE l T C err [] x))

set_option maxRecDepth 100000 in
set_option maxHeartbeats 2000000 in
theorem show_any (A : Option Addr) (n cap : Nat) (T C err : Int) (l : List Ang) (w : World) (hn : n ≤ 1000000) (hl : l.length = n) (hA : AngsAt w A l) :
    Calls Try.prog 36 #[.agg #[.slice A n cap, .int .i64 T, .int .i64 C], .int .i64 err] w (ShowPost l T C err w) := by
  have hB : Below w.heap.size w (w.alloc (.cells #[.slice A n cap, .int .i64 T, .int .i64 C] 33)) := (Below.refl _ _).alloc (Nat.le_refl _) _
  have hck := Lib.hid (asked_any A n cap T C err l _ hn hl (hA.keep hB (Nat.le_refl _)))
  have HB := Lib.hid hB
  by_cases hf : askedL l T C err = 0
  · obtain ⟨hok, he0, he1⟩ := askedL_ok hf
    obtain ⟨b, o, rfl⟩ := hA.some hok.pos
    have HA := Lib.hid hA
    have HO := Lib.hid hok
    have HL := Lib.hid hl
    rw [hf] at hck
    have hsr : sureL l T C err = if canE l T C err [] then 0 else 9 := by unfold sureL; rw [if_neg (by rw [hf]; simp)]
    have HSR := Lib.hid hsr
    have n0 := Lib.hid (Go.heap_alloc_new w (.cells #[.slice (some ⟨b, o, none⟩) n cap, .int .i64 T, .int .i64 C] 33))
    clear hB hA hl hok hf hsr
    go_enter Try.func36, Try.ntmps36
    go_wp2_with fail
    refine hck.out.mono ?_
    rintro e w1 ⟨rfl, hb1⟩
    have hB1 : Below w.heap.size w w1 := HB.out.trans (hb1.mono HB.out.size)
    have n1 := (hb1.block w.heap.size (by simp)).trans n0.out
    have c0 : w1.cell? ⟨w.heap.size, 0, none⟩ = some (.slice (some ⟨b, o, none⟩) n cap) := by simp [World.cell?, n1]
    have c1 : w1.cell? ⟨w.heap.size, 1, none⟩ = some (.int .i64 T) := by simp [World.cell?, n1]
    have c2 : w1.cell? ⟨w.heap.size, 2, none⟩ = some (.int .i64 C) := by simp [World.cell?, n1]
    have HB1 := Lib.hid hB1
    clear n1 hb1 hB1 hck n0 HB
    have hr := Lib.hid (rooms_any b o n cap T C l err (.slice none 0 0) [] w1.drew HL.out HO.out (HA.out.keep HB1.out.drew (Nat.le_refl _)) he0 he1 (IntsAt.nil _) (by simp))
    go_wp2_with fail
    cases hcan : canE l T C err [] with
    | true =>
      have HC := Lib.hid hcan
      rw [hcan] at HSR
      clear hcan
      go_region_held3 (fun X => X.cell? ⟨w.heap.size, 0, none⟩ = some (.slice (some ⟨b, o, none⟩) n cap) ∧ X.cell? ⟨w.heap.size, 1, none⟩ = some (.int .i64 T) ∧ X.cell? ⟨w.heap.size, 2, none⟩ = some (.int .i64 C))
        (first | go_keep | exact ⟨cell_later hb2 c0, cell_later hb2 c1, cell_later hb2 c2⟩ | exact ⟨cell_later hb3 (cell_later hb2 c0), cell_later hb3 (cell_later hb2 c1), cell_later hb3 (cell_later hb2 c2)⟩)
        (first | (go_at_call 67; refine hr.out.mono ?_; rintro e w2 ⟨rs, rfl, hrs, hb2⟩) | (go_at_call 80; refine (truth_yes b o n cap T C err l rs w2 HL.out HO.out (HA.out.keep (HB1.out.drew.trans (hb2.mono HB1.out.drew.size)) (Nat.le_refl _)) he0 hrs HC.out).mono ?_; rintro e w3 ⟨v, x, rfl, hown, hT, hb3⟩))
      have hB2 := HB1.out.drew.trans (hb2.mono HB1.out.drew.size)
      have hB3 : Below w.heap.size w w3 := hB2.trans (hb3.mono hB2.size)
      have hfin : ShowPost l T C err w (.returned (.tuple #[v, .int .i64 0])) w3 := ⟨hB3, .inr ⟨HSR.out, v, x, rfl, by rw [HL.out]; exact hown.lower hB2.size, hT⟩⟩
      have HF := Lib.hid hfin
      clear hfin hown hT
      go_wp2_with fail
      go_ret2
      exact HF.out
    | false =>
      have HC := Lib.hid hcan
      rw [hcan] at HSR
      clear hcan
      go_region_held3 (fun X => X.cell? ⟨w.heap.size, 0, none⟩ = some (.slice (some ⟨b, o, none⟩) n cap) ∧ X.cell? ⟨w.heap.size, 1, none⟩ = some (.int .i64 T) ∧ X.cell? ⟨w.heap.size, 2, none⟩ = some (.int .i64 C))
        (first | go_keep | exact ⟨cell_later hb2 c0, cell_later hb2 c1, cell_later hb2 c2⟩ | exact ⟨cell_later hb3 (cell_later hb2 c0), cell_later hb3 (cell_later hb2 c1), cell_later hb3 (cell_later hb2 c2)⟩)
        (first | (go_at_call 67; refine hr.out.mono ?_; rintro e w2 ⟨rs, rfl, hrs, hb2⟩) | (go_at_call 80; refine (truth_no b o n cap T C err l rs w2 HL.out HO.out (HA.out.keep (HB1.out.drew.trans (hb2.mono HB1.out.drew.size)) (Nat.le_refl _)) he0 hrs HC.out).mono ?_; rintro e w3 ⟨rfl, hb3⟩))
      have hB2 := HB1.out.drew.trans (hb2.mono HB1.out.drew.size)
      have hB3 : Below w.heap.size w w3 := hB2.trans (hb3.mono hB2.size)
      have h9 : sureL l T C err = 9 := HSR.out
      have hfin : ShowPost l T C err w (.returned (.tuple #[.slice none 0 0, .int .i64 9])) w3 := ⟨hB3, .inl ⟨by rw [h9]; simp, by rw [h9]⟩⟩
      have HF := Lib.hid hfin
      clear hfin h9
      go_wp2_with fail
      go_ret2
      exact HF.out
  · have hs : sureL l T C err = askedL l T C err := by unfold sureL; rw [if_pos hf]
    have hne : (askedL l T C err != 0) = true := by simpa using hf
    have HS := Lib.hid hs
    have HN := Lib.hid hf
    clear hf hB hA hl hs
    go_enter Try.func36, Try.ntmps36
    go_wp2_with (go_at_call 66; refine hck.out.mono ?_; rintro e w' ⟨rfl, hb1⟩)
    go_ret2
    exact ⟨HB.out.trans (hb1.mono HB.out.size), .inl ⟨by rw [HS.out]; exact HN.out, by rw [HS.out]; rfl⟩⟩
end Go.Proofs.Ytkloaeaepjoijaa

/-
  sure, Least, Show.
-/
import Derived.Test.YtkloaeaepjoijaaCheck
set_option linter.all false
namespace Go.Proofs.Ytkloaeaepjoijaa
open Go.RowKit Go.WalkArith

/-- There is a truth within an error, some readings left out. -/
def canE (l : List Ang) (T C err : Int) (out : List Int) : Bool := canB l T C (roomLo l err out) (roomHi l err out)

def sureL (l : List Ang) (T C err : Int) : Int := if askedL l T C err ≠ 0 then askedL l T C err else if canE l T C err [] then 0 else 9

theorem askedL_ok {l : List Ang} {T C err : Int} (h : askedL l T C err = 0) : NetOk l T C ∧ 0 ≤ err ∧ err ≤ 40 := by
  unfold askedL at h
  split at h
  · rename_i h1; exact absurd h h1
  · rename_i h1
    split at h
    · rename_i h2; exact ⟨faultL_zero.1 (by omega), h2⟩
    · cases h

theorem AngsAt.some {W : World} {A : Option Addr} {l : List Ang} (h : AngsAt W A l) (hl : 0 < l.length) : ∃ b o, A = some ⟨b, o, none⟩ := by
  rcases h with rfl | ⟨b, o, h1, _⟩
  · simp at hl
  · exact ⟨b, o, h1⟩

theorem canE_any (b o n cap : Nat) (T C err : Int) (l : List Ang) (rs : Array Value) (out : List Int) (w : World) (hl : l.length = n) (hok : NetOk l T C) (hA : AngsAt w (some ⟨b, o, none⟩) l) (he0 : 0 ≤ err) (hrs : RoomsV rs (roomLo l err out) (roomHi l err out)) :
    Calls Try.prog 76 #[.agg #[.slice (some ⟨b, o, none⟩) n cap, .int .i64 T, .int .i64 C], .agg rs] w fun e w' => e = .returned (.bool (canE l T C err out)) ∧ Below w.heap.size w w' :=
  can_any b o n cap T C l rs _ _ w hl hok hA hrs (hl ▸ rooms_ok hok he0 out)

set_option maxRecDepth 100000 in
set_option maxHeartbeats 2000000 in
theorem sure_any (A : Option Addr) (n cap : Nat) (T C err : Int) (l : List Ang) (w : World) (hn : n ≤ 1000000) (hl : l.length = n) (hA : AngsAt w A l) :
    Calls Try.prog 78 #[.agg #[.slice A n cap, .int .i64 T, .int .i64 C], .int .i64 err] w fun e w' => e = .returned (.int .i64 (sureL l T C err)) ∧ Below w.heap.size w w' := by
  have hB : Below w.heap.size w (w.alloc (.cells #[.slice A n cap, .int .i64 T, .int .i64 C] 33)) := (Below.refl _ _).alloc (Nat.le_refl _) _
  have hck := Lib.hid (asked_any A n cap T C err l _ hn hl (hA.keep hB (Nat.le_refl _)))
  have HB := Lib.hid hB
  by_cases hf : askedL l T C err = 0
  · obtain ⟨hok, he0, he1⟩ := askedL_ok hf
    obtain ⟨b, o, rfl⟩ := hA.some hok.pos
    have HA := Lib.hid hA
    have HO := Lib.hid hok
    have HL := Lib.hid hl
    rw [hf] at hck
    have HAS := Lib.hid hf
    have n0 := Lib.hid (Go.heap_alloc_new w (.cells #[.slice (some ⟨b, o, none⟩) n cap, .int .i64 T, .int .i64 C] 33))
    clear hB hA hl hok hf
    go_enter Try.func78, Try.ntmps78
    go_wp2_with fail
    refine hck.out.mono ?_
    rintro e w1 ⟨rfl, hb1⟩
    have hB1 : Below w.heap.size w w1 := HB.out.trans (hb1.mono HB.out.size)
    have n1 := (hb1.block w.heap.size (by simp)).trans n0.out
    have c0 : w1.cell? ⟨w.heap.size, 0, none⟩ = some (.slice (some ⟨b, o, none⟩) n cap) := by simp [World.cell?, n1]
    have c1 : w1.cell? ⟨w.heap.size, 1, none⟩ = some (.int .i64 T) := by simp [World.cell?, n1]
    have c2 : w1.cell? ⟨w.heap.size, 2, none⟩ = some (.int .i64 C) := by simp [World.cell?, n1]
    have HB1 := Lib.hid hB1
    clear n1 hb1 hB1 hck n0 HB
    have hr := Lib.hid (rooms_any b o n cap T C l err (.slice none 0 0) [] w1.drew HL.out HO.out (HA.out.keep HB1.out.drew (Nat.le_refl _)) he0 he1 (IntsAt.nil _) (by simp))
    go_wp2_with fail
    have hsr : sureL l T C err = if canE l T C err [] then 0 else 9 := by unfold sureL; rw [if_neg (by rw [HAS.out]; simp)]
    have HSR := Lib.hid hsr
    clear hsr
    cases hcan : canE l T C err [] with
    | true =>
      rw [hcan] at HSR
      go_region_held3 (fun X => X.cell? ⟨w.heap.size, 0, none⟩ = some (.slice (some ⟨b, o, none⟩) n cap) ∧ X.cell? ⟨w.heap.size, 1, none⟩ = some (.int .i64 T) ∧ X.cell? ⟨w.heap.size, 2, none⟩ = some (.int .i64 C))
        (first | go_keep | exact ⟨cell_later hb2 c0, cell_later hb2 c1, cell_later hb2 c2⟩ | exact ⟨cell_later hb3 (cell_later hb2 c0), cell_later hb3 (cell_later hb2 c1), cell_later hb3 (cell_later hb2 c2)⟩)
        (first | (go_at_call 67; refine hr.out.mono ?_; rintro e w2 ⟨rs, rfl, hrs, hb2⟩) | (go_at_call 76; refine (canE_any b o n cap T C err l rs [] w2 HL.out HO.out (HA.out.keep (HB1.out.drew.trans (hb2.mono HB1.out.drew.size)) (Nat.le_refl _)) he0 hrs).mono ?_; rintro e w3 ⟨rfl, hb3⟩))
      have hB3 : Below w.heap.size w w3 := (HB1.out.drew.trans (hb2.mono HB1.out.drew.size)).trans (hb3.mono (HB1.out.drew.trans (hb2.mono HB1.out.drew.size)).size)
      go_wp2_with fail
      go_ret
      exact ⟨by rw [HSR.out]; rfl, hB3⟩
    | false =>
      rw [hcan] at HSR
      go_region_held3 (fun X => X.cell? ⟨w.heap.size, 0, none⟩ = some (.slice (some ⟨b, o, none⟩) n cap) ∧ X.cell? ⟨w.heap.size, 1, none⟩ = some (.int .i64 T) ∧ X.cell? ⟨w.heap.size, 2, none⟩ = some (.int .i64 C))
        (first | go_keep | exact ⟨cell_later hb2 c0, cell_later hb2 c1, cell_later hb2 c2⟩ | exact ⟨cell_later hb3 (cell_later hb2 c0), cell_later hb3 (cell_later hb2 c1), cell_later hb3 (cell_later hb2 c2)⟩)
        (first | (go_at_call 67; refine hr.out.mono ?_; rintro e w2 ⟨rs, rfl, hrs, hb2⟩) | (go_at_call 76; refine (canE_any b o n cap T C err l rs [] w2 HL.out HO.out (HA.out.keep (HB1.out.drew.trans (hb2.mono HB1.out.drew.size)) (Nat.le_refl _)) he0 hrs).mono ?_; rintro e w3 ⟨rfl, hb3⟩))
      have hB3 : Below w.heap.size w w3 := (HB1.out.drew.trans (hb2.mono HB1.out.drew.size)).trans (hb3.mono (HB1.out.drew.trans (hb2.mono HB1.out.drew.size)).size)
      go_wp2_with fail
      go_ret
      exact ⟨by rw [HSR.out]; rfl, hB3⟩
  · have hfin : sureL l T C err = askedL l T C err := by unfold sureL; rw [if_pos hf]
    have HF := Lib.hid hfin
    have hne : (askedL l T C err != 0) = true := by simpa using hf
    clear hfin hf hB hA hl
    go_enter Try.func78, Try.ntmps78
    go_wp2_with (go_at_call 66; refine hck.out.mono ?_; rintro e w' ⟨rfl, hb1⟩)
    go_ret
    exact ⟨by rw [HF.out]; rfl, HB.out.trans (hb1.mono HB.out.size)⟩
end Go.Proofs.Ytkloaeaepjoijaa

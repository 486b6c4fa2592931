/-
  readAs: a net in which another number was read of an angle.
-/
import Derived.Test.YtkloaeaepjoijaaEndsL
import Derived.Test.YtkloaeaepjoijaaLawB
set_option linter.all false
namespace Go.Proofs.Ytkloaeaepjoijaa
open Go.RowKit Go.WalkArith

theorem blk3 {w : World} {B t : Nat} {fr : Nat × Nat} {x0 x1 x2 : Value} (h : w.heap[B]? = some (.cells #[x0, x1, x2] t fr)) : w.cell? ⟨B, 0, none⟩ = some x0 ∧ w.cell? ⟨B, 1, none⟩ = some x1 ∧ w.cell? ⟨B, 2, none⟩ = some x2 := by simp [World.cell?, h]
theorem blk_soft {w : World} {B t : Nat} {cs : Array Value} (h : w.heap[B]? = some (.cells cs t (0, 0))) (i : Nat) : w.frozen? ⟨B, i, none⟩ = false := by simp [World.frozen?, h]
set_option maxRecDepth 100000 in
set_option maxHeartbeats 4000000 in
theorem readAs_any (b o cap i : Nat) (T C r : Int) (l : List Ang) (w : World) (hA : AngsAt w (some ⟨b, o, none⟩) l) (hi : i < l.length) (hl : l.length ≤ 1000) :
    Calls Try.prog 47 #[.agg #[.slice (some ⟨b, o, none⟩) l.length cap, .int .i64 T, .int .i64 C], .int .i64 i, .int .i64 r] w fun e w' => ∃ g cp, e = .returned (.agg #[.slice (some ⟨g, 0, none⟩) l.length cp, .int .i64 T, .int .i64 C]) ∧ AngsAt w' (some ⟨g, 0, none⟩) (l.set i (putF l[i] 2 r)) ∧ Below w.heap.size w w' := by
  obtain ⟨i0, hi0', hz0', hz1', hz2'⟩ := info_parts Try.info71
  have hi0 := Lib.hid hi0'
  have hz0 := Lib.hid hz0'
  have hz1 := Lib.hid hz1'
  have hz2 := Lib.hid hz2'
  have hpos : 0 < l.length := by omega
  obtain ⟨o1, ho1⟩ : ∃ x, Obj.cells #[.slice (some ⟨b, o, none⟩) l.length cap, .int .i64 T, .int .i64 C] 24 = x := ⟨_, rfl⟩
  obtain ⟨o2, ho2⟩ : ∃ x, Obj.cells #[.slice none 0 0, .int .i64 0, .int .i64 0] 24 = x := ⟨_, rfl⟩
  have hb2 : Below w.heap.size w ((w.alloc o1).alloc o2) := ((Below.refl _ _).alloc (Nat.le_refl _) _).alloc (by simp) _
  have hn1 : ((w.alloc (.cells #[.slice (some ⟨b, o, none⟩) l.length cap, .int .i64 T, .int .i64 C] 24)).alloc (.cells #[.slice none 0 0, .int .i64 0, .int .i64 0] 24)).heap[w.heap.size]? = some (.cells #[.slice (some ⟨b, o, none⟩) l.length cap, .int .i64 T, .int .i64 C] 24 (0, 0)) := (Below.heap_alloc _ _ _ (by simp <;> omega)).trans (heap_new_at _ _ _ rfl)
  have hn2 : ((w.alloc (.cells #[.slice (some ⟨b, o, none⟩) l.length cap, .int .i64 T, .int .i64 C] 24)).alloc (.cells #[.slice none 0 0, .int .i64 0, .int .i64 0] 24)).heap[w.heap.size + 1]? = some (.cells #[.slice none 0 0, .int .i64 0, .int .i64 0] 24 (0, 0)) := heap_new_at _ _ _ (by simp)
  rw [← ho1, ← ho2] at hb2
  clear ho1 ho2 o1 o2
  have hsz : ((w.alloc (.cells #[.slice (some ⟨b, o, none⟩) l.length cap, .int .i64 T, .int .i64 C] 24)).alloc (.cells #[.slice none 0 0, .int .i64 0, .int .i64 0] 24)).heap.size = w.heap.size + 2 := by simp
  have HA := Lib.hid (hA.keep hb2 (Nat.le_refl _))
  have HSZ := Lib.hid hsz
  have HB2 := Lib.hid hb2
  have HN1 := Lib.hid hn1
  have HN2 := Lib.hid hn2
  clear hA hb2 hn1 hn2 hsz hi0' hz0' hz1' hz2'
  go_enter Try.func47, Try.ntmps47
  go_upto_region 1 with fail
  generalize ((w.alloc (.cells #[.slice (some ⟨b, o, none⟩) l.length cap, .int .i64 T, .int .i64 C] 24)).alloc (.cells #[.slice none 0 0, .int .i64 0, .int .i64 0] 24)) = w2 at HA HSZ HB2 HN1 HN2 ⊢
  obtain ⟨Bo, hBo⟩ : ∃ B, w.heap.size + 1 = B := ⟨_, rfl⟩
  obtain ⟨Bi, hBi⟩ : ∃ B, w.heap.size = B := ⟨_, rfl⟩
  rw [hBo] at HN2 ⊢
  rw [hBi] at HN1 ⊢
  have hs2 : w2.heap.size = Bi + 2 := by rw [HSZ.out]; omega
  have hne : Bi < Bo := by omega
  have hBo2 : Bo < Bi + 2 := by omega
  have hw0 : w.heap.size ≤ Bi := by omega
  have HS2 := Lib.hid hs2
  clear hBo hBi hs2 HSZ
  have hcel := Lib.hid (fun j u (hu : (flatA l)[j]? = some u) => cell_later ((Below.refl _ w2).alloc (Nat.le_refl _) (.cells #[] 71)) (angs_flat HA.out j u hu))
  have hown0 := Lib.hid (World.ownsRow_made (base := w2.heap.size) (e := 71) (size := 4) w2 #[] 0 (Nat.le_refl _) (by decide) rfl)
  have c0 := (blk3 HN1.out).1
  have c0' := cell_later ((Below.refl _ w2).alloc (Nat.le_refl _) (.cells #[] 71)) c0
  go_wp2_with (at_builtin; refine wpList_append_own _ rfl _ _ 22 rfl w2.heap.size 71 i0 (.agg #[.int .i64 0, .int .i64 0, .int .i64 0, .int .i64 0]) 4 32 Try.underlying22 hi0.out hz0.out hz1.out hz2.out rfl (by decide) _ 0 [] rfl hown0.out ⟨b, o, none⟩ l.length cap (flatA l) rfl (flatA_length _) hcel.out (flatA_one _) ?c3 ?c4 ?c5 ?_)
  case c3 => unfold maxLen; omega
  case c4 => omega
  case c5 => simp
  intro v' w4 hown hgrow _
  have hown' : w4.ownsRow w2.heap.size 71 4 v' l.length (flatA l) := by simpa using hown
  have hbw : ∀ k, k < w2.heap.size → w4.heap[k]? = w2.heap[k]? := fun k hk => (hgrow.block k (by simp; omega) (by simp [Value.ownBlock]; omega)).trans (Below.heap_alloc _ _ _ hk)
  have hs4 := hgrow.size
  have hos := hgrow.os
  have hta := hgrow.tape
  have hou := hgrow.output
  obtain ⟨g, cp, rfl, hg, hrow⟩ := AngRow.of_own hpos hown'
  have hq1 : w4.heap[Bi]? = _ := (hbw Bi (by have := HS2.out; omega)).trans HN1.out
  have hq2 : w4.heap[Bo]? = _ := (hbw Bo (by have := HS2.out; omega)).trans HN2.out
  have hgi : Bi < g ∧ Bo < g := by have := HS2.out; omega
  have HB4 := Lib.hid (show Below w.heap.size w w4 from ⟨hos.trans HB2.out.os, hta.trans HB2.out.tape, hou.trans HB2.out.output, by have := HB2.out.size; simp at hs4; omega, fun k hk => (hbw k (by have := HB2.out.size; omega)).trans (HB2.out.block k hk)⟩)
  have HQ1 := Lib.hid hq1
  have HQ2 := Lib.hid hq2
  have HR4 := Lib.hid hrow
  have d0 := (blk3 hq1).1
  have z0 := blk_soft hq1 0
  clear hown hown' hgrow hbw hs4 hos hta hou hq1 hq2 hrow hg hcel hown0 c0 c0' HN1 HN2 HB2 HA HS2
  go_upto_region 2 with fail
  have HB5 := Lib.hid (HB4.out.setCell (p := ⟨Bi, 0, none⟩) hw0 (.slice (some ⟨g, 0, none⟩) l.length cp))
  have HR5 := Lib.hid (HR4.out.of_block (Below.heap_setCell w4 ⟨Bi, 0, none⟩ (.slice (some ⟨g, 0, none⟩) l.length cp) g (show g ≠ Bi by omega)))
  have HQ15 := Lib.hid (set_first HQ1.out (.slice (some ⟨g, 0, none⟩) l.length cp))
  have HQ25 := Lib.hid ((Below.heap_setCell w4 ⟨Bi, 0, none⟩ (.slice (some ⟨g, 0, none⟩) l.length cp) Bo (show Bo ≠ Bi by omega)).trans HQ2.out)
  clear d0 z0 HB4 HR4 HQ1 HQ2
  generalize w4.setCell ⟨Bi, 0, none⟩ (.slice (some ⟨g, 0, none⟩) l.length cp) = w5 at HB5 HR5 HQ15 HQ25 ⊢
  have d0 := (blk3 HQ15.out).1
  have d1 := (HR5.out.cells hi).2.2.1
  have z1 := HR5.out.frozen (i * 4 + 2)
  have i1 : (0 : Int) ≤ (i : Int) := by omega
  have i2 : (i : Int) < (l.length : Int) := by omega
  go_upto_region 3 with fail
  have HB6 := Lib.hid (HB5.out.setCell (p := ⟨g, i * 4 + 2, none⟩) (show w.heap.size ≤ g by omega) (.int .i64 r))
  have HR6 := Lib.hid (HR5.out.put (f := 2) hi (by omega) r)
  have HQ16 := Lib.hid ((Below.heap_setCell w5 ⟨g, i * 4 + 2, none⟩ (.int .i64 r) Bi (show Bi ≠ g by omega)).trans HQ15.out)
  have HQ26 := Lib.hid ((Below.heap_setCell w5 ⟨g, i * 4 + 2, none⟩ (.int .i64 r) Bo (show Bo ≠ g by omega)).trans HQ25.out)
  clear d0 d1 z1 HB5 HR5 HQ15 HQ25
  generalize w5.setCell ⟨g, i * 4 + 2, none⟩ (.int .i64 r) = w6 at HB6 HR6 HQ16 HQ26 ⊢
  obtain ⟨e0, e1, e2⟩ := blk3 HQ16.out
  obtain ⟨f0, f1, f2⟩ := blk3 HQ26.out
  have y0 := blk_soft HQ26.out 0
  have y1 := blk_soft HQ26.out 1
  have y2 := blk_soft HQ26.out 2
  go_wp2_with fail
  have hx : (((w6.setCell ⟨Bo, 0, none⟩ (.slice (some ⟨g, 0, none⟩) l.length cp)).setCell ⟨Bo, 1, none⟩ (.int .i64 T)).setCell ⟨Bo, 2, none⟩ (.int .i64 C)).heap[Bo]? = some (.cells #[.slice (some ⟨g, 0, none⟩) l.length cp, .int .i64 T, .int .i64 C] 24 (0, 0)) := heap_setCell_same _ Bo 2 _ 24 _ (heap_setCell_same _ Bo 1 _ 24 _ (heap_setCell_same _ Bo 0 _ 24 _ HQ26.out))
  have hb : Below w.heap.size w (((w6.setCell ⟨Bo, 0, none⟩ (.slice (some ⟨g, 0, none⟩) l.length cp)).setCell ⟨Bo, 1, none⟩ (.int .i64 T)).setCell ⟨Bo, 2, none⟩ (.int .i64 C)) := ((HB6.out.setCell (p := ⟨Bo, 0, none⟩) (show w.heap.size ≤ Bo by omega) _).setCell (p := ⟨Bo, 1, none⟩) (show w.heap.size ≤ Bo by omega) _).setCell (p := ⟨Bo, 2, none⟩) (show w.heap.size ≤ Bo by omega) _
  have hr : AngRow (((w6.setCell ⟨Bo, 0, none⟩ (.slice (some ⟨g, 0, none⟩) l.length cp)).setCell ⟨Bo, 1, none⟩ (.int .i64 T)).setCell ⟨Bo, 2, none⟩ (.int .i64 C)) g (l.set i (putF l[i] 2 r)) := HR6.out.of_block ((Below.heap_setCell _ ⟨Bo, 2, none⟩ _ g (show g ≠ Bo by omega)).trans ((Below.heap_setCell _ ⟨Bo, 1, none⟩ _ g (show g ≠ Bo by omega)).trans (Below.heap_setCell _ ⟨Bo, 0, none⟩ _ g (show g ≠ Bo by omega))))
  generalize (((w6.setCell ⟨Bo, 0, none⟩ (.slice (some ⟨g, 0, none⟩) l.length cp)).setCell ⟨Bo, 1, none⟩ (.int .i64 T)).setCell ⟨Bo, 2, none⟩ (.int .i64 C)) = W at hx hb hr ⊢
  obtain ⟨q0, q1, q2⟩ := blk3 hx
  exact bodyPost_ret (v := .agg #[.slice (some ⟨g, 0, none⟩) l.length cp, .int .i64 T, .int .i64 C]) (by simp [results, Try.results47, go_sem, q0, q1, q2]) rfl ⟨g, cp, rfl, hr.angs, hb⟩
end Go.Proofs.Ytkloaeaepjoijaa

/-
  Bounds.
-/
import Derived.Test.YtkloaeaepjoijaaBounds
set_option linter.all false
namespace Go.Proofs.Ytkloaeaepjoijaa
open Go.RowKit Go.WalkArith

theorem Try.info58 : (Try.prog.info? 58).map (fun i => (i.zero, i.size, i.bytes)) = some (some (.agg #[.int .i64 0, .int .i64 0]), 2, 16) := by kernel_rfl

/-- Ranges one behind the other. -/
def flatR (lo hi : Int → Int) (n : Nat) : List Value := (List.range n).flatMap fun i : Nat => [.int .i64 (lo i), .int .i64 (hi i)]
theorem flatR_succ (lo hi : Int → Int) (n : Nat) : flatR lo hi (n + 1) = flatR lo hi n ++ [.int .i64 (lo n), .int .i64 (hi n)] := by simp [flatR, List.range_succ, List.flatMap_append]
theorem flatR_congr {lo hi lo' hi' : Int → Int} {n : Nat} (h : ∀ i : Nat, i < n → lo i = lo' i ∧ hi i = hi' i) : flatR lo hi n = flatR lo' hi' n := by
  induction n with
  | zero => rfl
  | succ n ih => rw [flatR_succ, flatR_succ, ih (fun i hi => h i (by omega)), (h n (by omega)).1, (h n (by omega)).2]

/-- The bounds of all angles. -/
structure BoundsE (l : List Ang) (T C err : Int) (n : Nat) (bl bh : Int → Int) : Prop where
  lo : ∀ i : Nat, i < n → IsLow (pointB l T C (roomLo l err []) (roomHi l err []) i) (roomLo l err [] i) (roomHi l err [] i) (bl i)
  hi : ∀ i : Nat, i < n → IsHigh (pointB l T C (roomLo l err []) (roomHi l err []) i) (roomLo l err [] i) (roomHi l err [] i) (bh i)

def BoundsAllPost (l : List Ang) (T C err : Int) (w : World) (e : Ending) (w' : World) : Prop :=
  Below w.heap.size w w' ∧ ((sureL l T C err ≠ 0 ∧ e = .returned (.tuple #[.slice none 0 0, .int .i64 (sureL l T C err)])) ∨
    (sureL l T C err = 0 ∧ ∃ (v : Value) (bl bh : Int → Int), e = .returned (.tuple #[v, .int .i64 0]) ∧ w'.ownsRow w.heap.size 58 2 v l.length (flatR bl bh l.length) ∧ BoundsE l T C err l.length bl bh))

def BRel (l : List Ang) (T C err : Int) (n : Nat) (w2 : World) (v i : Value) (wr : World) : Prop :=
  ∃ k : Nat, k ≤ n ∧ i = .int .i64 k ∧ ∃ bl bh, wr.ownsRow w2.heap.size 58 2 v k (flatR bl bh k) ∧ BoundsE l T C err k bl bh ∧ Below w2.heap.size w2 wr

theorem sureL_ok {l : List Ang} {T C err : Int} (h : sureL l T C err = 0) : askedL l T C err = 0 ∧ canE l T C err [] = true := by
  unfold sureL at h
  split at h
  · rename_i h1; exact absurd h h1
  · rename_i h1
    split at h
    · rename_i h2; exact ⟨by omega, h2⟩
    · cases h

theorem grown_two {w w3 w4 : World} (h3 : Below w.drew.heap.size w.drew w3) (h4 : Below w3.heap.size w3 w4) : w.grownBy w4 none := by
  have h := h3.trans (h4.mono h3.size)
  exact ⟨h.os, h.tape, h.output, h.size, fun j hj _ => h.block j hj⟩
theorem own_none (v : Value) : v.ownBlock = none ∨ v.ownBlock ≠ none := by cases v.ownBlock <;> simp

set_option maxRecDepth 100000 in
set_option maxHeartbeats 4000000 in
theorem boundsAll_any (A : Option Addr) (n cap : Nat) (T C err : Int) (l : List Ang) (w : World) (hn : n ≤ 1000000) (hl : l.length = n) (hA : AngsAt w A l) :
    Calls Try.prog 35 #[.agg #[.slice A n cap, .int .i64 T, .int .i64 C], .int .i64 err] w (BoundsAllPost l T C err w) := by
  have hB : Below w.heap.size w (w.alloc (.cells #[.slice A n cap, .int .i64 T, .int .i64 C] 33)) := (Below.refl _ _).alloc (Nat.le_refl _) _
  have hck := Lib.hid (sure_any A n cap T C err l _ hn hl (hA.keep hB (Nat.le_refl _)))
  have HB := Lib.hid hB
  by_cases hf : sureL l T C err = 0
  · obtain ⟨hask, hcan⟩ := sureL_ok hf
    obtain ⟨hok, he0, he1⟩ := askedL_ok hask
    obtain ⟨b, o, rfl⟩ := hA.some hok.pos
    have HA := Lib.hid hA
    have HO := Lib.hid hok
    have HL := Lib.hid hl
    have HC := Lib.hid hcan
    have HS0 := Lib.hid hf
    rw [hf] at hck
    have n0 := Lib.hid (Go.heap_alloc_new w (.cells #[.slice (some ⟨b, o, none⟩) n cap, .int .i64 T, .int .i64 C] 33))
    have hn12 : n ≤ 12 := by rw [← hl]; exact hok.len
    obtain ⟨i0, hi0, hz0, hz1, hz2⟩ := info_parts Try.info58
    clear hB hA hl hok hf hask hcan
    go_enter Try.func35, Try.ntmps35
    go_wp2_with fail
    refine hck.out.mono ?_
    rintro e w2 ⟨rfl, hb1⟩
    have hB2 : Below w.heap.size w w2 := HB.out.trans (hb1.mono HB.out.size)
    have n2 := (hb1.block w.heap.size (by simp)).trans n0.out
    have c0 : w2.cell? ⟨w.heap.size, 0, none⟩ = some (.slice (some ⟨b, o, none⟩) n cap) := by simp [World.cell?, n2]
    have HN2 := Lib.hid n2
    have HB2 := Lib.hid hB2
    clear n2 hb1 hB2 hck n0 HB
    go_wp2_with fail
    go_loopw [7, 18] (BRel l T C err n w2) (fun _ i _ => n - (intOf i).toNat)
    case atStart => exact ⟨0, by omega, rfl, fun _ => 0, fun _ => 0, World.ownsRow_nil _ _ _ _, ⟨fun i h => by omega, fun i h => by omega⟩, Below.refl _ _⟩
    case round =>
      obtain ⟨k, hk, rfl, bl, bh, hown, hbe, hbel⟩ := hrel
      have hsz := hbel.size
      have HBE := Lib.hid hbe
      clear hbe
      by_cases hlt : k < n
      · have hlt' : decide ((k : Int) < (n : Int)) = true := by simpa using hlt
        have lN : w.heap.size < w2.heap.size := (Array.getElem?_eq_some_iff.1 HN2.out).1
        have nr := (hbel.block w.heap.size lN).trans HN2.out
        have x0 : wr.cell? ⟨w.heap.size, 0, none⟩ = some (.slice (some ⟨b, o, none⟩) n cap) := by simp [World.cell?, nr]
        have x1 : wr.cell? ⟨w.heap.size, 1, none⟩ = some (.int .i64 T) := by simp [World.cell?, nr]
        have x2 : wr.cell? ⟨w.heap.size, 2, none⟩ = some (.int .i64 C) := by simp [World.cell?, nr]
        have hBr : Below w.heap.size w wr := HB2.out.trans (hbel.mono HB2.out.size)
        have hr := Lib.hid (rooms_any b o n cap T C l err (.slice none 0 0) [] wr.drew HL.out HO.out (HA.out.keep hBr.drew (Nat.le_refl _)) he0 he1 (IntsAt.nil _) (by simp))
        have hol := hown.lt
        have e1 : u7.ownBlock ≠ some w.heap.size := fun e => by have := hol _ e; omega
        have HBR := Lib.hid hBr
        have HBEL := Lib.hid hbel
        have HOWN := Lib.hid hown
        clear nr hBr hbel hown hol
        go_wp2_with fail
        refine wp_region_held_drew (S := fun X => X.cell? ⟨w.heap.size, 0, none⟩ = some (.slice (some ⟨b, o, none⟩) n cap) ∧ X.cell? ⟨w.heap.size, 1, none⟩ = some (.int .i64 T) ∧ X.cell? ⟨w.heap.size, 2, none⟩ = some (.int .i64 C)) (by kernel_rfl) (⟨x0, x1, x2⟩) (fun hS0 => ?_)
        refine wpAnyH_take (i := 0) (oi := { dst := some 21, op := Op.move (Operand.tmp 7), type := 52, pos := "ask.go:78", after := #[], guard := none }) (v := ?_) rfl (by kernel_rfl) (by kernel_rfl) (by kernel_rfl) (fun _ _ _ h => h) (Or.inl ⟨by rfl, ?_⟩) hS0 ?_
        rotate_left
        · intro X hX
          obtain ⟨x0, x1, x2⟩ := hX
          go_simp
          try with_reducible rfl
        simp only [Act.put, List.setIfInBounds_toArray, List.set_cons_zero, List.set_cons_succ, Array.toArray_toList]
        refine wpAnyH_take (i := 1) (oi := { dst := some 22, op := Op.load 33 (Operand.tmp 2), type := 33, pos := "ask.go:78", after := #[], guard := none }) (v := ?_) rfl (by kernel_rfl) (by kernel_rfl) (by kernel_rfl) (fun _ _ _ h => h) (Or.inl ⟨by rfl, ?_⟩) hS0 ?_
        rotate_left
        · intro X hX
          obtain ⟨x0, x1, x2⟩ := hX
          go_simp
          try with_reducible rfl
        simp only [Act.put, List.setIfInBounds_toArray, List.set_cons_zero, List.set_cons_succ, Array.toArray_toList]
        refine wpAnyH_take (i := 2) (oi := { dst := some 23, op := Op.load 33 (Operand.tmp 2), type := 33, pos := "ask.go:78", after := #[], guard := none }) (v := ?_) rfl (by kernel_rfl) (by kernel_rfl) (by kernel_rfl) (fun _ _ _ h => h) (Or.inl ⟨by rfl, ?_⟩) hS0 ?_
        rotate_left
        · intro X hX
          obtain ⟨x0, x1, x2⟩ := hX
          go_simp
          try with_reducible rfl
        simp only [Act.put, List.setIfInBounds_toArray, List.set_cons_zero, List.set_cons_succ, Array.toArray_toList]
        refine wpAnyH_take (i := 3) (oi := { dst := some 24, op := Op.move (Operand.tmp 1), type := 3, pos := "ask.go:78", after := #[], guard := none }) (v := ?_) rfl (by kernel_rfl) (by kernel_rfl) (by kernel_rfl) (fun _ _ _ h => h) (Or.inl ⟨by rfl, ?_⟩) hS0 ?_
        rotate_left
        · intro X hX
          obtain ⟨x0, x1, x2⟩ := hX
          go_simp
          try with_reducible rfl
        simp only [Act.put, List.setIfInBounds_toArray, List.set_cons_zero, List.set_cons_succ, Array.toArray_toList]
        refine wpAnyH_take (i := 5) (oi := { dst := some 26, op := Op.move (Operand.tmp 8), type := 3, pos := "ask.go:78", after := #[], guard := none }) (v := ?_) rfl (by kernel_rfl) (by kernel_rfl) (by kernel_rfl) (fun _ _ _ h => h) (Or.inl ⟨by rfl, ?_⟩) hS0 ?_
        rotate_left
        · intro X hX
          obtain ⟨x0, x1, x2⟩ := hX
          go_simp
          try with_reducible rfl
        simp only [Act.put, List.setIfInBounds_toArray, List.set_cons_zero, List.set_cons_succ, Array.toArray_toList]
        refine wpAnyH_ready (rs := [4]) (by kernel_rfl) (by simp) (AllReadyH.cons (o := { dst := some 25, op := Op.call { callee := Callee.value (Operand.func 67), args := #[Operand.tmp 23, Operand.tmp 24, Operand.const (Value.slice none 0 0)], argTypes := #[33, 3, 25] }, type := 109, pos := "ask.go:78", after := #[{ on := 2, ground := Ground.data }, { on := 3, ground := Ground.data }], guard := none }) rfl (fun K hK => ?_) AllReadyH.nil)
        go_simp
        refine hr.out.mono ?_
        rintro e w3 ⟨rs, rfl, hrs, hb3⟩
        go_wp2_with fail
        refine hK.out _ _ (⟨cell_later hb3 x0, cell_later hb3 x1, cell_later hb3 x2⟩) (fun hS1 => ?_)
        clear hS0 hK K
        refine wpAnyH_ready (rs := [6]) (by kernel_rfl) (by simp) (AllReadyH.cons (o := { dst := some 27, op := Op.call { callee := Callee.value (Operand.func 79), args := #[Operand.tmp 22, Operand.tmp 25, Operand.tmp 26], argTypes := #[33, 109, 3] }, type := 58, pos := "ask.go:78", after := #[{ on := 1, ground := Ground.data }, { on := 4, ground := Ground.data }, { on := 5, ground := Ground.data }, { on := 4, ground := Ground.chain }], guard := none }) rfl (fun K hK => ?_) AllReadyH.nil)
        go_simp
        refine (bounds_any b o n cap k T C l rs _ _ w3 HL.out HO.out (HA.out.keep (HBR.out.drew.trans (hb3.mono HBR.out.size)) (Nat.le_refl _)) hrs (HL.out ▸ rooms_ok HO.out he0 []) hlt HC.out).mono ?_
        rintro e w4 ⟨r1, r2, rfl, hr1, hr2, hb4⟩
        have HR1 := Lib.hid hr1
        have HR2 := Lib.hid hr2
        have y0 := cell_later hb4 (cell_later hb3 x0)
        have y1 := cell_later hb4 (cell_later hb3 x1)
        have y2 := cell_later hb4 (cell_later hb3 x2)
        have ly : w.heap.size < w4.heap.size := World.block_lt_of_cell? w4 _ y0
        have hg4 : wr.grownBy w4 none := grown_two hb3 hb4
        have hown4 := HOWN.out.kept hg4 (own_none u7)
        have lw4 : w2.heap.size ≤ w4.heap.size := Nat.le_trans hsz hg4.size
        have hbel4 : Below w2.heap.size w2 w4 := HBEL.out.trans ⟨hg4.os, hg4.tape, hg4.output, hg4.size, fun j hj => hg4.block j (by omega) (by simp)⟩
        clear hr1 hr2 hb3 hb4 x0 x1 x2
        go_wp2_with fail
        refine hK.out _ _ (⟨y0, y1, y2⟩) (fun hS2 => ?_)
        clear hS1 hK K
        refine wpAnyH_ready (rs := [7]) (by kernel_rfl) (by simp) (AllReadyH.cons (o := { dst := some 28, op := Op.buildSlice 52 1 #[(0, Operand.tmp 27)], type := 52, pos := "ask.go:78", after := #[{ on := 6, ground := Ground.data }], guard := none }) rfl (fun K hK => ?_) AllReadyH.nil)
        go_simp
        refine hK.out _ _ (⟨(World.cell?_alloc_lt _ _ _ ly).trans y0, (World.cell?_alloc_lt _ _ _ ly).trans y1, (World.cell?_alloc_lt _ _ _ ly).trans y2⟩) (fun hS3 => ?_)
        clear hS2 hK K
        refine wpAnyH_ready (rs := [8]) (by kernel_rfl) (by simp) (AllReadyH.cons (o := { dst := some 29, op := Op.call { callee := Callee.builtin Builtin.append, args := #[Operand.tmp 21, Operand.tmp 28], argTypes := #[52, 52] }, type := 52, pos := "ask.go:78", after := #[{ on := 0, ground := Ground.data }, { on := 7, ground := Ground.data }, { on := 6, ground := Ground.chain }], guard := none }) rfl (fun K hK => ?_) AllReadyH.nil)
        refine step_append_lies _ (by rfl) _ _ _ (by rfl) w2.heap.size 58 i0 _ 2 16 Try.underlying52 hi0 hz0 hz1 hz2 rfl (by omega) u7 k _ (by rfl) (hown4.alloc _) ⟨w4.heap.size, 0, none⟩ 1 1 [.int .i64 r1, .int .i64 r2] (by rfl) (by rfl) (World.news_of_block (cs := #[.int .i64 r1, .int .i64 r2]) (t := 58) (fr := (0, 0)) (Go.heap_alloc_new w4 _)) (by simp [Value.oneCell']) (by omega) (by unfold maxLen; omega) (by omega) (by simp; omega) (w4.heap.size + 1) (by simp) ?_
        intro gg cap' w5 hown5 hgrow hat hlt5
        have z0 := (hgrow.cell_far ⟨w.heap.size, 0, none⟩ (by simp; omega) (Ne.symm e1)).trans ((World.cell?_alloc_lt _ _ _ ly).trans y0)
        have z1 := (hgrow.cell_far ⟨w.heap.size, 1, none⟩ (by simp; omega) (Ne.symm e1)).trans ((World.cell?_alloc_lt _ _ _ ly).trans y1)
        have z2 := (hgrow.cell_far ⟨w.heap.size, 2, none⟩ (by simp; omega) (Ne.symm e1)).trans ((World.cell?_alloc_lt _ _ _ ly).trans y2)
        refine hK.out _ _ (⟨z0, z1, z2⟩) (fun hS4 => ?_)
        clear hS3 hK K
        simp only [Act.put, List.setIfInBounds_toArray, List.set_cons_zero, List.set_cons_succ, Array.toArray_toList]
        refine wpAnyH_ready (rs := [9]) (by kernel_rfl) (by simp) (AllReadyH.cons (o := { dst := some 7, op := Op.assign (Operand.tmp 29), type := 52, pos := "ask.go:78", after := #[{ on := 8, ground := Ground.data }, { on := 8, ground := Ground.chain }, { on := 0, ground := Ground.phase }, { on := 1, ground := Ground.phase }, { on := 2, ground := Ground.phase }, { on := 3, ground := Ground.phase }, { on := 4, ground := Ground.phase }, { on := 5, ground := Ground.phase }, { on := 6, ground := Ground.phase }, { on := 7, ground := Ground.phase }, { on := 8, ground := Ground.phase }], guard := none }) rfl (fun K hK => ?_) AllReadyH.nil)
        go_simp
        refine hK.out _ _ (hS4) (fun hS5 => ?_)
        clear hS4 hK K
        refine wpAnyH_done (by kernel_rfl) ?_ _
        clear hS5
        have hbel5 : Below w2.heap.size w2 w5 := by
          refine hbel4.trans ?_
          have hbx : Below w2.heap.size w4 (w4.alloc (.cells #[.int .i64 r1, .int .i64 r2] 58)) := (((Below.refl _ w4).alloc (Nat.le_refl _) _).mono lw4)
          refine hbx.trans ⟨hgrow.os, hgrow.tape, hgrow.output, hgrow.size, fun j hj => hgrow.block j (by simp; omega) (fun e => ?_)⟩
          have := hown4.lt j e.symm
          omega
        have hown6 : w5.ownsRow w2.heap.size 58 2 (.slice (some ⟨gg, 0, none⟩) (k + 1) cap') (k + 1) (flatR (updG bl k r1) (updG bh k r2) (k + 1)) := by
          rw [flatR_succ, flatR_congr (lo' := bl) (hi' := bh) (fun i hi => ⟨by unfold updG; rw [if_neg (by omega)], by unfold updG; rw [if_neg (by omega)]⟩)]
          rw [show updG bl k r1 k = r1 by simp [updG], show updG bh k r2 k = r2 by simp [updG]]
          exact hown5
        have HB5 := Lib.hid hbel5
        have HO6 := Lib.hid hown6
        clear hbel5 hown6 hown5 hgrow hat hown4 hbel4 z0 z1 z2 y0 y1 y2
        go_wp2_with fail
        go_roundw
        case rel =>
          refine ⟨k + 1, by omega, by go_num, updG bl k r1, updG bh k r2, HO6.out, ⟨fun i hi => ?_, fun i hi => ?_⟩, HB5.out⟩
          · by_cases e : i = k
            · subst e; simp only [updG, if_pos]; exact HR1.out
            · unfold updG; rw [if_neg (by omega)]; exact HBE.out.lo i (by omega)
          · by_cases e : i = k
            · subst e; simp only [updG, if_pos]; exact HR2.out
            · unfold updG; rw [if_neg (by omega)]; exact HBE.out.hi i (by omega)
        case measure => simp [intOf]; omega
      · have hlt' : decide ((k : Int) < (n : Int)) = false := by simpa using hlt
        obtain rfl : k = n := by omega
        have hfin : BoundsAllPost l T C err w (.returned (.tuple #[u7, .int .i64 0])) wr := ⟨HB2.out.trans (hbel.mono HB2.out.size), .inr ⟨HS0.out, u7, bl, bh, rfl, by rw [HL.out]; exact hown.lower HB2.out.size, by rw [HL.out]; exact HBE.out⟩⟩
        have HFIN := Lib.hid hfin
        clear hfin hown hbel
        go_wp2_with fail
        go_ret2
        exact HFIN.out
  · have hne : (sureL l T C err != 0) = true := by simpa using hf
    have HN := Lib.hid hf
    clear hf hB hA hl
    go_enter Try.func35, Try.ntmps35
    go_wp2_with (go_at_call 78; refine hck.out.mono ?_; rintro e w' ⟨rfl, hb1⟩)
    go_ret2
    exact ⟨HB.out.trans (hb1.mono HB.out.size), .inl ⟨HN.out, rfl⟩⟩
end Go.Proofs.Ytkloaeaepjoijaa

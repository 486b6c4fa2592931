/-
  Controlled.
-/
import Derived.Test.YtkloaeaepjoijaaBoundsAll
set_option linter.all false
namespace Go.Proofs.Ytkloaeaepjoijaa
open Go.RowKit Go.WalkArith

/-- An angle is controlled. -/
def ctlB (l : List Ang) (T C err : Int) (i : Nat) : Bool := !(pointB l T C (roomLo l err [(i : Int)]) (roomHi l err [(i : Int)]) i 0 && pointB l T C (roomLo l err [(i : Int)]) (roomHi l err [(i : Int)]) i 40)

def ctlL (l : List Ang) (T C err : Int) (k : Nat) : List Int := ((List.range k).filter (ctlB l T C err)).map fun i : Nat => (i : Int)

theorem ctlL_succ (l : List Ang) (T C err : Int) (k : Nat) : ctlL l T C err (k + 1) = ctlL l T C err k ++ (if ctlB l T C err k then [(k : Int)] else []) := by
  unfold ctlL
  rw [List.range_succ, List.filter_append, List.map_append]
  congr 1
  simp only [List.filter_cons, List.filter_nil]
  split <;> simp

theorem ctlL_length (l : List Ang) (T C err : Int) (k : Nat) : (ctlL l T C err k).length ≤ k := by
  unfold ctlL
  have := List.length_filter_le (ctlB l T C err) (List.range k)
  simpa using this

theorem ctl_iff {l : List Ang} {T C err : Int} {k : Nat} (hk : k < l.length) {r1 r2 : Int} (h1 : IsLow (pointB l T C (roomLo l err [(k : Int)]) (roomHi l err [(k : Int)]) k) (roomLo l err [(k : Int)] k) (roomHi l err [(k : Int)] k) r1)
    (h2 : IsHigh (pointB l T C (roomLo l err [(k : Int)]) (roomHi l err [(k : Int)]) k) (roomLo l err [(k : Int)] k) (roomHi l err [(k : Int)] k) r2) : ctlB l T C err k = true ↔ ¬ (r1 = 0 ∧ r2 = 40) := by
  have el : roomLo l err [(k : Int)] k = 0 := by rw [roomLo_at hk]; simp
  have eh : roomHi l err [(k : Int)] k = 40 := by rw [roomHi_at hk]; simp
  have a1 := h1.ge
  have a2 := h1.le
  have a3 := h2.ge
  have a4 := h2.le
  rw [el] at a1 a3
  rw [eh] at a2 a4
  unfold ctlB
  constructor
  · rintro h ⟨rfl, rfl⟩
    rw [h1.yes, h2.yes] at h
    cases h
  · intro h
    cases e1 : pointB l T C (roomLo l err [(k : Int)]) (roomHi l err [(k : Int)]) k 0 with
    | false => rfl
    | true =>
      cases e2 : pointB l T C (roomLo l err [(k : Int)]) (roomHi l err [(k : Int)]) k 40 with
      | false => rfl
      | true =>
        exfalso
        apply h
        constructor
        · rcases Int.lt_or_le 0 r1 with h3 | h3
          · have := h1.no 0 (by rw [el]; omega) h3; rw [e1] at this; cases this
          · omega
        · rcases Int.lt_or_le r2 40 with h3 | h3
          · have := h2.no 40 h3 (by rw [eh]; omega); rw [e2] at this; cases this
          · omega

theorem neq_ranges {r1 r2 : Int} {c : Bool} (h : c = true ↔ ¬ (r1 = 0 ∧ r2 = 40)) (w : World) :
    (if r1 = 0 then if r2 = 40 then Result.ok (Next.value (Value.bool false)) w else Result.ok (Next.value (Value.bool true)) w else Result.ok (Next.value (Value.bool true)) w) = Result.ok (Next.value (Value.bool c)) w := by
  cases c with
  | true =>
    have h1 := h.1 rfl
    by_cases a : r1 = 0
    · rw [if_pos a, if_neg (fun e => h1 ⟨a, e⟩)]
    · rw [if_neg a]
  | false =>
    have h1 : r1 = 0 ∧ r2 = 40 := by
      rcases Decidable.em (r1 = 0 ∧ r2 = 40) with e | e
      · exact e
      · cases h.2 e
    rw [if_pos h1.1, if_pos h1.2]

def ControlPost (l : List Ang) (T C err : Int) (w : World) (e : Ending) (w' : World) : Prop :=
  Below w.heap.size w w' ∧ ((sureL l T C err ≠ 0 ∧ e = .returned (.tuple #[.slice none 0 0, .int .i64 (sureL l T C err)])) ∨
    (sureL l T C err = 0 ∧ ∃ (v : Value), e = .returned (.tuple #[v, .int .i64 0]) ∧ w'.ownsRow w.heap.size 3 1 v (ctlL l T C err l.length).length ((ctlL l T C err l.length).map (Value.int .i64))))

def CRel (l : List Ang) (T C err : Int) (n : Nat) (w2 : World) (v i : Value) (wr : World) : Prop :=
  ∃ k : Nat, k ≤ n ∧ i = .int .i64 k ∧ wr.ownsRow w2.heap.size 3 1 v (ctlL l T C err k).length ((ctlL l T C err k).map (Value.int .i64)) ∧ Below w2.heap.size w2 wr

theorem can_left {l : List Ang} {T C err : Int} (hok : NetOk l T C) (he : 0 ≤ err) (h : canE l T C err [] = true) (out : List Int) : canE l T C err out = true := by
  refine canB_mono hok (fun i hi => ?_) (fun i hi => ?_) h
  · rw [roomLo_at hi, roomLo_at hi]; simp only [List.contains_nil, Bool.false_eq_true, if_false]; split <;> omega
  · rw [roomHi_at hi, roomHi_at hi]; simp only [List.contains_nil, Bool.false_eq_true, if_false]; split <;> omega

set_option maxRecDepth 100000 in
set_option maxHeartbeats 4000000 in
theorem control_any (A : Option Addr) (n cap : Nat) (T C err : Int) (l : List Ang) (w : World) (hn : n ≤ 1000000) (hl : l.length = n) (hA : AngsAt w A l) :
    Calls Try.prog 40 #[.agg #[.slice A n cap, .int .i64 T, .int .i64 C], .int .i64 err] w (ControlPost l T C err w) := by
  have hB : Below w.heap.size w (w.alloc (.cells #[.slice A n cap, .int .i64 T, .int .i64 C] 33)) := (Below.refl _ _).alloc (Nat.le_refl _) _
  have hck := Lib.hid (sure_any A n cap T C err l _ hn hl (hA.keep hB (Nat.le_refl _)))
  have HB := Lib.hid hB
  by_cases hf : sureL l T C err = 0
  · obtain ⟨hask, hcan⟩ := sureL_ok hf
    obtain ⟨hok, he0, he1⟩ := askedL_ok hask
    obtain ⟨b, o, rfl⟩ := hA.some hok.pos
    have HA := Lib.hid hA
    have HO := Lib.hid hok
    have HL := Lib.hid hl
    have HC := Lib.hid hcan
    have HS0 := Lib.hid hf
    rw [hf] at hck
    have n0 := Lib.hid (Go.heap_alloc_new w (.cells #[.slice (some ⟨b, o, none⟩) n cap, .int .i64 T, .int .i64 C] 33))
    have hn12 : n ≤ 12 := by rw [← hl]; exact hok.len
    obtain ⟨i0, hi0, hz0, hz1, hz2⟩ := info_parts Try.info3
    clear hB hA hl hok hf hask hcan
    go_enter Try.func40, Try.ntmps40
    go_wp2_with fail
    refine hck.out.mono ?_
    rintro e w2 ⟨rfl, hb1⟩
    have hB2 : Below w.heap.size w w2 := HB.out.trans (hb1.mono HB.out.size)
    have n2 := (hb1.block w.heap.size (by simp)).trans n0.out
    have c0 : w2.cell? ⟨w.heap.size, 0, none⟩ = some (.slice (some ⟨b, o, none⟩) n cap) := by simp [World.cell?, n2]
    have HN2 := Lib.hid n2
    have HB2 := Lib.hid hB2
    clear n2 hb1 hB2 hck n0 HB
    go_wp2_with fail
    go_loopw [7, 18] (CRel l T C err n w2) (fun _ i _ => n - (intOf i).toNat)
    case atStart => exact ⟨0, by omega, rfl, World.ownsRow_nil _ _ _ _, Below.refl _ _⟩
    case round =>
      obtain ⟨k, hk, rfl, hown, hbel⟩ := hrel
      have hsz := hbel.size
      by_cases hlt : k < n
      · have hlt' : decide ((k : Int) < (n : Int)) = true := by simpa using hlt
        have hlk : k < l.length := by rw [HL.out]; exact hlt
        have lN : w.heap.size < w2.heap.size := (Array.getElem?_eq_some_iff.1 HN2.out).1
        have nr := (hbel.block w.heap.size lN).trans HN2.out
        have x0 : wr.cell? ⟨w.heap.size, 0, none⟩ = some (.slice (some ⟨b, o, none⟩) n cap) := by simp [World.cell?, nr]
        have x1 : wr.cell? ⟨w.heap.size, 1, none⟩ = some (.int .i64 T) := by simp [World.cell?, nr]
        have x2 : wr.cell? ⟨w.heap.size, 2, none⟩ = some (.int .i64 C) := by simp [World.cell?, nr]
        have lr : w.heap.size < wr.heap.size := World.block_lt_of_cell? wr _ x0
        have hBr : Below w.heap.size w wr := HB2.out.trans (hbel.mono HB2.out.size)
        have hBr2 : Below w.heap.size w (wr.alloc (.cells #[.int .i64 k] 3)).drew := (hBr.alloc hBr.size _).drew
        have hr := Lib.hid (rooms_any b o n cap T C l err (.slice (some ⟨wr.heap.size, 0, none⟩) 1 1) [(k : Int)] (wr.alloc (.cells #[.int .i64 k] 3)).drew HL.out HO.out (HA.out.keep hBr2 (Nat.le_refl _)) he0 he1 ⟨_, 1, rfl, .inr ⟨wr.heap.size, 0, rfl, fun i hi => by obtain rfl : i = 0 := (by simpa using hi); simp⟩⟩ (by simp))
        have HBR := Lib.hid hBr2
        have HBEL := Lib.hid hbel
        have HOWN := Lib.hid hown
        have hll := ctlL_length l T C err k
        clear nr hBr hbel hown hBr2
        have hcl := Lib.hid (can_left HO.out he0 HC.out [(k : Int)])
        go_wp2_with fail
        refine wp_region_held_drew (S := fun X => X.cell? ⟨w.heap.size, 0, none⟩ = some (.slice (some ⟨b, o, none⟩) n cap) ∧ X.cell? ⟨w.heap.size, 1, none⟩ = some (.int .i64 T) ∧ X.cell? ⟨w.heap.size, 2, none⟩ = some (.int .i64 C)) (by kernel_rfl) (⟨x0, x1, x2⟩) (fun hS0 => ?_)
        refine wpAnyH_take (i := 0) (oi := { dst := some 21, op := Op.load 33 (Operand.tmp 2), type := 33, pos := "ask.go:102", after := #[], guard := none }) (v := ?_) rfl (by kernel_rfl) (by kernel_rfl) (by kernel_rfl) (fun _ _ _ h => h) (Or.inl ⟨by rfl, ?_⟩) hS0 ?_
        rotate_left
        · intro X hX
          obtain ⟨x0, x1, x2⟩ := hX
          go_simp
          try with_reducible rfl
        simp only [Act.put, List.setIfInBounds_toArray, List.set_cons_zero, List.set_cons_succ, Array.toArray_toList]
        refine wpAnyH_take (i := 1) (oi := { dst := some 22, op := Op.load 33 (Operand.tmp 2), type := 33, pos := "ask.go:102", after := #[], guard := none }) (v := ?_) rfl (by kernel_rfl) (by kernel_rfl) (by kernel_rfl) (fun _ _ _ h => h) (Or.inl ⟨by rfl, ?_⟩) hS0 ?_
        rotate_left
        · intro X hX
          obtain ⟨x0, x1, x2⟩ := hX
          go_simp
          try with_reducible rfl
        simp only [Act.put, List.setIfInBounds_toArray, List.set_cons_zero, List.set_cons_succ, Array.toArray_toList]
        refine wpAnyH_take (i := 2) (oi := { dst := some 23, op := Op.move (Operand.tmp 1), type := 3, pos := "ask.go:102", after := #[], guard := none }) (v := ?_) rfl (by kernel_rfl) (by kernel_rfl) (by kernel_rfl) (fun _ _ _ h => h) (Or.inl ⟨by rfl, ?_⟩) hS0 ?_
        rotate_left
        · intro X hX
          obtain ⟨x0, x1, x2⟩ := hX
          go_simp
          try with_reducible rfl
        simp only [Act.put, List.setIfInBounds_toArray, List.set_cons_zero, List.set_cons_succ, Array.toArray_toList]
        refine wpAnyH_take (i := 3) (oi := { dst := some 24, op := Op.move (Operand.tmp 8), type := 3, pos := "ask.go:102", after := #[], guard := none }) (v := ?_) rfl (by kernel_rfl) (by kernel_rfl) (by kernel_rfl) (fun _ _ _ h => h) (Or.inl ⟨by rfl, ?_⟩) hS0 ?_
        rotate_left
        · intro X hX
          obtain ⟨x0, x1, x2⟩ := hX
          go_simp
          try with_reducible rfl
        simp only [Act.put, List.setIfInBounds_toArray, List.set_cons_zero, List.set_cons_succ, Array.toArray_toList]
        refine wpAnyH_take (i := 6) (oi := { dst := some 27, op := Op.move (Operand.tmp 8), type := 3, pos := "ask.go:102", after := #[], guard := none }) (v := ?_) rfl (by kernel_rfl) (by kernel_rfl) (by kernel_rfl) (fun _ _ _ h => h) (Or.inl ⟨by rfl, ?_⟩) hS0 ?_
        rotate_left
        · intro X hX
          obtain ⟨x0, x1, x2⟩ := hX
          go_simp
          try with_reducible rfl
        simp only [Act.put, List.setIfInBounds_toArray, List.set_cons_zero, List.set_cons_succ, Array.toArray_toList]
        refine wpAnyH_ready (rs := [4]) (by kernel_rfl) (by simp) (AllReadyH.cons (o := { dst := some 25, op := Op.buildSlice 25 1 #[(0, Operand.tmp 24)], type := 25, pos := "ask.go:102", after := #[{ on := 3, ground := Ground.data }], guard := none }) rfl (fun K hK => ?_) AllReadyH.nil)
        go_simp
        refine hK.out _ _ (⟨(World.cell?_alloc_lt _ _ _ lr).trans x0, (World.cell?_alloc_lt _ _ _ lr).trans x1, (World.cell?_alloc_lt _ _ _ lr).trans x2⟩) (fun hS1 => ?_)
        clear hS0 hK K
        refine wpAnyH_ready (rs := [5]) (by kernel_rfl) (by simp) (AllReadyH.cons (o := { dst := some 26, op := Op.call { callee := Callee.value (Operand.func 67), args := #[Operand.tmp 22, Operand.tmp 23, Operand.tmp 25], argTypes := #[33, 3, 25] }, type := 109, pos := "ask.go:102", after := #[{ on := 1, ground := Ground.data }, { on := 2, ground := Ground.data }, { on := 4, ground := Ground.data }], guard := none }) rfl (fun K hK => ?_) AllReadyH.nil)
        go_simp
        refine hr.out.mono ?_
        rintro e w3 ⟨rs, rfl, hrs, hb3⟩
        have y0 := cell_later hb3 ((World.cell?_alloc_lt _ _ _ lr).trans x0)
        have y1 := cell_later hb3 ((World.cell?_alloc_lt _ _ _ lr).trans x1)
        have y2 := cell_later hb3 ((World.cell?_alloc_lt _ _ _ lr).trans x2)
        go_wp2_with fail
        refine hK.out _ _ (⟨y0, y1, y2⟩) (fun hS2 => ?_)
        clear hS1 hK K
        refine wpAnyH_ready (rs := [7]) (by kernel_rfl) (by simp) (AllReadyH.cons (o := { dst := some 28, op := Op.call { callee := Callee.value (Operand.func 79), args := #[Operand.tmp 21, Operand.tmp 26, Operand.tmp 27], argTypes := #[33, 109, 3] }, type := 58, pos := "ask.go:102", after := #[{ on := 0, ground := Ground.data }, { on := 5, ground := Ground.data }, { on := 6, ground := Ground.data }, { on := 5, ground := Ground.chain }], guard := none }) rfl (fun K hK => ?_) AllReadyH.nil)
        go_simp
        refine (bounds_any b o n cap k T C l rs _ _ w3 HL.out HO.out (HA.out.keep (HBR.out.trans (hb3.mono HBR.out.size)) (Nat.le_refl _)) hrs (HL.out ▸ rooms_ok HO.out he0 [(k : Int)]) hlt hcl.out).mono ?_
        rintro e w4 ⟨r1, r2, rfl, hr1, hr2, hb4⟩
        have hci := Lib.hid (ctl_iff hlk hr1 hr2)
        have v0 := cell_later hb4 y0
        have v1 := cell_later hb4 y1
        have v2 := cell_later hb4 y2
        clear hr1 hr2
        go_wp2_with fail
        refine hK.out _ _ (⟨v0, v1, v2⟩) (fun hS3 => ?_)
        clear hS2 hK K
        refine wpAnyH_ready (rs := [8]) (by kernel_rfl) (by simp) (AllReadyH.cons (o := { dst := some 29, op := Op.call { callee := Callee.value (Operand.func 81), args := #[], argTypes := #[] }, type := 58, pos := "ask.go:102", after := #[{ on := 7, ground := Ground.chain }], guard := none }) rfl (fun K hK => ?_) AllReadyH.nil)
        go_simp
        refine (everything_any _).mono ?_
        rintro e w5 ⟨rfl, hb5⟩
        have u0 := cell_later hb5 v0
        have u1 := cell_later hb5 v1
        have u2 := cell_later hb5 v2
        go_wp2_with fail
        refine hK.out _ _ (⟨u0, u1, u2⟩) (fun hS4 => ?_)
        clear hS3 hK K
        refine wpAnyH_ready (rs := [9]) (by kernel_rfl) (by simp) (AllReadyH.cons (o := { dst := some 30, op := Op.binOp BinOp.neq 58 (Operand.tmp 28) (Operand.tmp 29) 58, type := 4, pos := "ask.go:102", after := #[{ on := 7, ground := Ground.data }, { on := 8, ground := Ground.data }], guard := none }) rfl (fun K hK => ?_) AllReadyH.nil)
        go_simp
        rw [show (if r1 = 0 then if r2 = 40 then Result.ok (Next.value (Value.bool false)) w5 else Result.ok (Next.value (Value.bool true)) w5 else Result.ok (Next.value (Value.bool true)) w5) = Result.ok (Next.value (Value.bool (ctlB l T C err k))) w5 from neq_ranges hci.out w5]
        rw [Oper.upon_value]
        refine hK.out _ _ (hS4) (fun hS5 => ?_)
        clear hS4 hK K
        refine wpAnyH_done (by kernel_rfl) ?_ _
        clear hS5
        simp only [Act.put, List.setIfInBounds_toArray, List.set_cons_zero, List.set_cons_succ]
        have hB5 : Below wr.heap.size wr w5 := ((((Below.refl _ wr).alloc (Nat.le_refl _) (.cells #[.int .i64 k] 3)).drew.trans (hb3.mono (by simp))).trans (hb4.mono (Nat.le_trans (by simp) hb3.size))).trans (hb5.mono (Nat.le_trans (Nat.le_trans (by simp) hb3.size) hb4.size))
        have hg5 : wr.grownBy w5 none := ⟨hB5.os, hB5.tape, hB5.output, hB5.size, fun j hj _ => hB5.block j hj⟩
        have hown5 := HOWN.out.kept hg5 (own_none u7)
        have hbel5 : Below w2.heap.size w2 w5 := HBEL.out.trans (hB5.mono hsz)
        have hl5 : w2.heap.size ≤ w5.heap.size := hbel5.size
        have HOWN5 := Lib.hid hown5
        have HBEL5 := Lib.hid hbel5
        clear hown5 hbel5 hg5 hB5 hb3 hb4 hb5 y0 y1 y2 v0 v1 v2 u0 u1 u2 x0 x1 x2
        cases hcb : ctlB l T C err k with
        | false =>
          have hsn : ctlL l T C err (k + 1) = ctlL l T C err k := by rw [ctlL_succ, hcb]; simp
          have HSN := Lib.hid hsn
          clear hsn hcb
          go_wp2_with fail
          go_roundw
          case rel => exact ⟨k + 1, by omega, by go_num, by rw [HSN.out]; exact HOWN5.out, HBEL5.out⟩
          case measure => simp [intOf]; omega
        | true =>
          have hsn : ctlL l T C err (k + 1) = ctlL l T C err k ++ [(k : Int)] := by rw [ctlL_succ, hcb]; simp
          have HSN := Lib.hid hsn
          clear hsn hcb
          go_wp2_with (at_builtin; refine wpList_append_own _ rfl _ _ 25 rfl w2.heap.size 3 i0 (.int .i64 0) 1 8 Try.underlying25 hi0 hz0 hz1 hz2 rfl (by decide) _ _ _ rfl (HOWN5.out.alloc _) ⟨w5.heap.size, 0, none⟩ 1 1 [.int .i64 k] rfl rfl ?c1 ?c2 ?c3 ?c4 ?c5 ?_)
          case c1 => exact World.news_of_block (cs := #[.int .i64 k]) (t := 3) (fr := (0, 0)) (Go.heap_alloc_new w5 _)
          case c2 => simp [Value.oneCell']
          case c3 => unfold maxLen; omega
          case c4 => omega
          case c5 => simp; omega
          intro v' w6 hown6 hgrow _
          have hbel6 : Below w2.heap.size w2 w6 := by
            refine HBEL5.out.trans ?_
            have hbx : Below w2.heap.size w5 (w5.alloc (.cells #[.int .i64 k] 3)) := (((Below.refl _ w5).alloc (Nat.le_refl _) _).mono hl5)
            refine hbx.trans ⟨hgrow.os, hgrow.tape, hgrow.output, hgrow.size, fun j hj => hgrow.block j (by simp; omega) (fun e => ?_)⟩
            have := HOWN5.out.lt j e.symm
            omega
          have hown7 : w6.ownsRow w2.heap.size 3 1 v' (ctlL l T C err (k + 1)).length ((ctlL l T C err (k + 1)).map (Value.int .i64)) := by
            rw [HSN.out, List.map_append, List.length_append]; exact hown6
          have HOWN7 := Lib.hid hown7
          have HBEL6 := Lib.hid hbel6
          clear hown6 hgrow hbel6 hown7
          go_wp2_with fail
          go_roundw
          case rel => exact ⟨k + 1, by omega, by go_num, HOWN7.out, HBEL6.out⟩
          case measure => simp [intOf]; omega
      · have hlt' : decide ((k : Int) < (n : Int)) = false := by simpa using hlt
        obtain rfl : k = n := by omega
        have hfin : ControlPost l T C err w (.returned (.tuple #[u7, .int .i64 0])) wr := ⟨HB2.out.trans (hbel.mono HB2.out.size), .inr ⟨HS0.out, u7, rfl, by rw [HL.out]; exact hown.lower HB2.out.size⟩⟩
        have HFIN := Lib.hid hfin
        clear hfin hown hbel
        go_wp2_with fail
        go_ret2
        exact HFIN.out
  · have hne : (sureL l T C err != 0) = true := by simpa using hf
    have HN := Lib.hid hf
    clear hf hB hA hl
    go_enter Try.func40, Try.ntmps40
    go_wp2_with (go_at_call 78; refine hck.out.mono ?_; rintro e w' ⟨rfl, hb1⟩)
    go_ret2
    exact ⟨HB.out.trans (hb1.mono HB.out.size), .inl ⟨HN.out, rfl⟩⟩
end Go.Proofs.Ytkloaeaepjoijaa

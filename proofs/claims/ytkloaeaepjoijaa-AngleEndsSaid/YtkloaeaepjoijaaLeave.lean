/-
  Leave: its recursive closure.
-/
import Derived.Test.YtkloaeaepjoijaaControl
set_option linter.all false
namespace Go.Proofs.Ytkloaeaepjoijaa
open Go.RowKit Go.WalkArith

/-- The first of some tries that comes to something. -/
def firstSome {α : Type} (f : Nat → Option α) : Nat → Nat → Option α
  | 0, _ => none
  | k + 1, i => match f i with | some x => some x | none => firstSome f k (i + 1)

/-- The lists that are left out, in the order in which they are tried. -/
def leaveF (p : List Int → Bool) (n : Nat) : Nat → List Int → Nat → Option (List Int)
  | 0 => fun out _ => if p out then some out else none
  | m + 1 => fun out start => firstSome (fun i => leaveF p n m (out ++ [(i : Int)]) (i + 1)) (n - m - start) start

theorem firstSome_skip {α : Type} {f : Nat → Option α} {m s : Nat} : ∀ k, k ≤ m → (∀ j, s ≤ j → j < s + k → f j = none) → firstSome f m s = firstSome f (m - k) (s + k) := by
  intro k
  induction k with
  | zero => intro _ _; rfl
  | succ k ih =>
    intro hk h
    rw [ih (by omega) (fun j h1 h2 => h j h1 (by omega)), show m - k = (m - (k + 1)) + 1 by omega]
    simp only [firstSome, h (s + k) (by omega) (by omega)]
    rfl
theorem firstSome_none {α : Type} {f : Nat → Option α} {m s : Nat} (h : ∀ j, s ≤ j → j < s + m → f j = none) : firstSome f m s = none := by
  rw [firstSome_skip m (Nat.le_refl _) h, Nat.sub_self]; rfl
theorem firstSome_some {α : Type} {f : Nat → Option α} {m s k : Nat} {x : α} (h0 : s ≤ k) (hk : k < s + m) (h : ∀ j, s ≤ j → j < k → f j = none) (hf : f k = some x) : firstSome f m s = some x := by
  rw [firstSome_skip (k - s) (by omega) (fun j h1 h2 => h j h1 (by omega)), show m - (k - s) = (m - (k - s) - 1) + 1 by omega, show s + (k - s) = k by omega]
  simp only [firstSome, hf]

/-- What the closure works with. -/
structure LEnv (W0 : World) (Bo : Nat) (W : World) (v : Value) (out : List Int) : Prop where
  os : W.os = W0.os
  tape : W.tape = W0.tape
  output : W.output = W0.output
  size : W0.heap.size ≤ W.heap.size
  same : ∀ k, k < W0.heap.size → k ≠ Bo → W.heap[k]? = W0.heap[k]?
  cell : W.heap[Bo]? = some (.cells #[v] 25 (0, 0))
  own : W.ownsRow W0.heap.size 3 1 v out.length (out.map (Value.int .i64))

theorem LEnv.keep {W0 W W' : World} {Bo : Nat} {v : Value} {out : List Int} (h : LEnv W0 Bo W v out) (hb : Below W.heap.size W W') : LEnv W0 Bo W' v out := by
  have hl := (Array.getElem?_eq_some_iff.1 h.cell).1
  refine ⟨hb.os.trans h.os, hb.tape.trans h.tape, hb.output.trans h.output, Nat.le_trans h.size hb.size, fun k hk h1 => (hb.block k (Nat.lt_of_lt_of_le hk h.size)).trans (h.same k hk h1), (hb.block Bo hl).trans h.cell, ?_⟩
  exact h.own.kept (row := none) ⟨hb.os, hb.tape, hb.output, hb.size, fun j hj _ => hb.block j hj⟩ (own_none v)

/-- What the closure captures. -/
structure LCap (W0 : World) (Bn Be Bo Bl : Nat) (b o n cap : Nat) (T C err : Int) (l : List Ang) : Prop where
  net : W0.heap[Bn]? = some (.cells #[.slice (some ⟨b, o, none⟩) n cap, .int .i64 T, .int .i64 C] 33 (0, 0))
  er : W0.heap[Be]? = some (.cells #[.int .i64 err] 3 (0, 0))
  fn : W0.heap[Bl]? = some (.cells #[.func (.func 82) #[] #[.pointer (some ⟨Bn, 0, none⟩), .pointer (some ⟨Be, 0, none⟩), .pointer (some ⟨Bo, 0, none⟩), .pointer (some ⟨Bl, 0, none⟩)]] 124 (0, 0))
  n1 : Bn ≠ Bo
  n2 : Be ≠ Bo
  n3 : Bl ≠ Bo
  lo : Bo < W0.heap.size
  angs : ∀ X, (∀ k, k < W0.heap.size → k ≠ Bo → X.heap[k]? = W0.heap[k]?) → AngsAt X (some ⟨b, o, none⟩) l

def LPost (W0 : World) (Bo : Nat) (out : List Int) (r : Option (List Int)) (e : Ending) (W' : World) : Prop :=
  e = .returned (.bool r.isSome) ∧ ∃ v, LEnv W0 Bo W' v (r.getD out)

def LRel (W0 : World) (Bo : Nat) (out : List Int) (f : Nat → Option (List Int)) (start top : Nat) (i : Value) (wr : World) : Prop :=
  ∃ k : Nat, start ≤ k ∧ (k ≤ top ∨ k = start) ∧ i = .int .i64 k ∧ (∀ j, start ≤ j → j < k → f j = none) ∧ ∃ v, LEnv W0 Bo wr v out

set_option maxRecDepth 100000 in
set_option maxHeartbeats 4000000 in
theorem leave_zero (W0 : World) (Bn Be Bo Bl b o n cap : Nat) (T C err : Int) (l : List Ang) (hcp : LCap W0 Bn Be Bo Bl b o n cap T C err l) (hl : l.length = n) (hok : NetOk l T C) (he0 : 0 ≤ err) (he1 : err ≤ 40) (start : Nat) (out : List Int) (hon : out.length ≤ 100) (v : Value) (W : World) (hE : LEnv W0 Bo W v out) :
    Calls Try.prog 82 #[.int .i64 start, .int .i64 0, .pointer (some ⟨Bn, 0, none⟩), .pointer (some ⟨Be, 0, none⟩), .pointer (some ⟨Bo, 0, none⟩), .pointer (some ⟨Bl, 0, none⟩)] W (LPost W0 Bo out (leaveF (canE l T C err) n 0 out start)) := by
  have lN := (Array.getElem?_eq_some_iff.1 hcp.net).1
  have lE := (Array.getElem?_eq_some_iff.1 hcp.er).1
  have hn := (hE.same Bn lN hcp.n1).trans hcp.net
  have he := (hE.same Be lE hcp.n2).trans hcp.er
  have c0 : W.cell? ⟨Bn, 0, none⟩ = some (.slice (some ⟨b, o, none⟩) n cap) := by simp [World.cell?, hn]
  have c1 : W.cell? ⟨Bn, 1, none⟩ = some (.int .i64 T) := by simp [World.cell?, hn]
  have c2 : W.cell? ⟨Bn, 2, none⟩ = some (.int .i64 C) := by simp [World.cell?, hn]
  have c3 : W.cell? ⟨Be, 0, none⟩ = some (.int .i64 err) := by simp [World.cell?, he]
  have c4 : W.cell? ⟨Bo, 0, none⟩ = some v := by simp [World.cell?, hE.cell]
  have hED : LEnv W0 Bo W.drew v out := hE.keep ((Below.refl _ _).drew)
  have hr := Lib.hid (rooms_any b o n cap T C l err v out W.drew hl hok (hcp.angs _ hED.same) he0 he1 (IntsAt.of_own hED.own) hon)
  have HE := Lib.hid hED
  have HCP := Lib.hid hcp
  have HL := Lib.hid hl
  have HO := Lib.hid hok
  obtain ⟨cb, hcb⟩ : ∃ cb, canE l T C err out = cb := ⟨_, rfl⟩
  have hres : leaveF (canE l T C err) n 0 out start = if cb then some out else none := by simp only [leaveF, hcb]
  have HRES := Lib.hid hres
  have HCB := Lib.hid hcb
  clear hE hED hcp hl hok hn he lN lE hres hcb
  go_enter Try.func82, Try.ntmps82
  go_wp2_with fail
  refine wp_region_held_drew (S := fun X => X.cell? ⟨Bn, 0, none⟩ = some (.slice (some ⟨b, o, none⟩) n cap) ∧ X.cell? ⟨Bn, 1, none⟩ = some (.int .i64 T) ∧ X.cell? ⟨Bn, 2, none⟩ = some (.int .i64 C) ∧ X.cell? ⟨Be, 0, none⟩ = some (.int .i64 err) ∧ X.cell? ⟨Bo, 0, none⟩ = some v) (by kernel_rfl) (⟨c0, c1, c2, c3, c4⟩) (fun hS0 => ?_)
  refine wpAnyH_take (i := 0) (oi := { dst := some 12, op := Op.load 33 (Operand.tmp 2), type := 33, pos := "ask.go:119", after := #[], guard := none }) (v := ?_) rfl (by kernel_rfl) (by kernel_rfl) (by kernel_rfl) (fun _ _ _ h => h) (Or.inl ⟨by rfl, ?_⟩) hS0 ?_
  rotate_left
  · intro X hX
    obtain ⟨x0, x1, x2, x3, x4⟩ := hX
    go_simp
    try with_reducible rfl
  simp only [Act.put, List.setIfInBounds_toArray, List.set_cons_zero, List.set_cons_succ, Array.toArray_toList]
  refine wpAnyH_take (i := 1) (oi := { dst := some 13, op := Op.load 33 (Operand.tmp 2), type := 33, pos := "ask.go:119", after := #[], guard := none }) (v := ?_) rfl (by kernel_rfl) (by kernel_rfl) (by kernel_rfl) (fun _ _ _ h => h) (Or.inl ⟨by rfl, ?_⟩) hS0 ?_
  rotate_left
  · intro X hX
    obtain ⟨x0, x1, x2, x3, x4⟩ := hX
    go_simp
    try with_reducible rfl
  simp only [Act.put, List.setIfInBounds_toArray, List.set_cons_zero, List.set_cons_succ, Array.toArray_toList]
  refine wpAnyH_take (i := 2) (oi := { dst := some 14, op := Op.load 3 (Operand.tmp 3), type := 3, pos := "ask.go:119", after := #[], guard := none }) (v := ?_) rfl (by kernel_rfl) (by kernel_rfl) (by kernel_rfl) (fun _ _ _ h => h) (Or.inl ⟨by rfl, ?_⟩) hS0 ?_
  rotate_left
  · intro X hX
    obtain ⟨x0, x1, x2, x3, x4⟩ := hX
    go_simp
    try with_reducible rfl
  simp only [Act.put, List.setIfInBounds_toArray, List.set_cons_zero, List.set_cons_succ, Array.toArray_toList]
  refine wpAnyH_take (i := 3) (oi := { dst := some 15, op := Op.load 25 (Operand.tmp 4), type := 25, pos := "ask.go:119", after := #[], guard := none }) (v := ?_) rfl (by kernel_rfl) (by kernel_rfl) (by kernel_rfl) (fun _ _ _ h => h) (Or.inl ⟨by rfl, ?_⟩) hS0 ?_
  rotate_left
  · intro X hX
    obtain ⟨x0, x1, x2, x3, x4⟩ := hX
    go_simp
    try with_reducible rfl
  simp only [Act.put, List.setIfInBounds_toArray, List.set_cons_zero, List.set_cons_succ, Array.toArray_toList]
  refine wpAnyH_ready (rs := [4]) (by kernel_rfl) (by simp) (AllReadyH.cons (o := { dst := some 16, op := Op.call { callee := Callee.value (Operand.func 67), args := #[Operand.tmp 13, Operand.tmp 14, Operand.tmp 15], argTypes := #[33, 3, 25] }, type := 109, pos := "ask.go:119", after := #[{ on := 1, ground := Ground.data }, { on := 2, ground := Ground.data }, { on := 3, ground := Ground.data }], guard := none }) rfl (fun K hK => ?_) AllReadyH.nil)
  go_simp
  refine hr.out.mono ?_
  rintro e w2 ⟨rs, rfl, hrs, hb2⟩
  go_wp2_with fail
  refine hK.out _ _ (⟨cell_later hb2 c0, cell_later hb2 c1, cell_later hb2 c2, cell_later hb2 c3, cell_later hb2 c4⟩) (fun hS1 => ?_)
  clear hS0 hK K
  refine wpAnyH_ready (rs := [5]) (by kernel_rfl) (by simp) (AllReadyH.cons (o := { dst := some 17, op := Op.call { callee := Callee.value (Operand.func 76), args := #[Operand.tmp 12, Operand.tmp 16], argTypes := #[33, 109] }, type := 4, pos := "ask.go:119", after := #[{ on := 0, ground := Ground.data }, { on := 4, ground := Ground.data }, { on := 4, ground := Ground.chain }], guard := none }) rfl (fun K hK => ?_) AllReadyH.nil)
  go_simp
  refine (canE_any b o n cap T C err l rs out w2 HL.out HO.out (HCP.out.angs _ (HE.out.keep hb2).same) he0 hrs).mono ?_
  rintro e w3 ⟨rfl, hb3⟩
  rw [HCB.out]
  have hE3 := Lib.hid ((HE.out.keep hb2).keep hb3)
  go_wp2_with fail
  refine hK.out _ _ (⟨cell_later hb3 (cell_later hb2 c0), cell_later hb3 (cell_later hb2 c1), cell_later hb3 (cell_later hb2 c2), cell_later hb3 (cell_later hb2 c3), cell_later hb3 (cell_later hb2 c4)⟩) (fun hS2 => ?_)
  clear hS1 hK K
  refine wpAnyH_ready (rs := [6]) (by kernel_rfl) (by simp) (AllReadyH.cons (o := { dst := some 8, op := Op.assign (Operand.tmp 17), type := 4, pos := "ask.go:119", after := #[{ on := 5, ground := Ground.data }, { on := 5, ground := Ground.chain }, { on := 0, ground := Ground.phase }, { on := 1, ground := Ground.phase }, { on := 2, ground := Ground.phase }, { on := 3, ground := Ground.phase }, { on := 4, ground := Ground.phase }, { on := 5, ground := Ground.phase }], guard := none }) rfl (fun K hK => ?_) AllReadyH.nil)
  go_simp
  refine hK.out _ _ (hS2) (fun hS3 => ?_)
  clear hS2 hK K
  refine wpAnyH_done (by kernel_rfl) ?_ _
  clear hS3
  clear hb2 hb3 hrs hr
  have hfin : LPost W0 Bo out (leaveF (canE l T C err) n 0 out start) (.returned (.bool cb)) w3 := by
    rw [HRES.out]
    cases cb with
    | true => exact ⟨rfl, v, hE3.out⟩
    | false => exact ⟨rfl, v, hE3.out⟩
  have HF := Lib.hid hfin
  clear hfin
  go_wp2_with fail
  go_ret
  exact HF.out

theorem own_form {w : World} {base : Nat} {v : Value} {n : Nat} {xs : List Value} (h : w.ownsRow base 3 1 v (n + 1) xs) : ∃ g cap, v = .slice (some ⟨g, 0, none⟩) (n + 1) cap ∧ n + 1 ≤ cap := by
  obtain ⟨_, ⟨_, h0⟩ | ⟨g, cap, cur, h1, h2, h3, h4, h5⟩⟩ := h
  · omega
  · exact ⟨g, cap, h1, h4⟩

theorem own_pop {w : World} {base g cap n : Nat} {xs : List Value} {x : Value} (h : w.ownsRow base 3 1 (.slice (some ⟨g, 0, none⟩) (n + 1) cap) (n + 1) (xs ++ [x])) (hn : xs.length = n) : w.ownsRow base 3 1 (.slice (some ⟨g, 0, none⟩) n cap) n xs := by
  obtain ⟨_, ⟨h0, _⟩ | ⟨g', cap', cur, h1, h2, h3, h4, h5, h6, h7⟩⟩ := h
  · cases h0
  · cases h1
    refine ⟨by omega, .inr ⟨g, cap, cur, rfl, h2, h3, by omega, h5, h6, ?_⟩⟩
    have : (cur.toList.take ((n + 1) * 1)).take n = xs := by rw [h7, List.take_append_of_le_length (by omega), List.take_of_length_le (by omega)]
    rw [List.take_take] at this
    rw [← this]
    congr 1
    omega

theorem LEnv.store {W0 W : World} {Bo : Nat} {v v' : Value} {out out' : List Int} (h : LEnv W0 Bo W v out) (hBo : Bo < W0.heap.size) (ho : W.ownsRow W0.heap.size 3 1 v' out'.length (out'.map (Value.int .i64))) : LEnv W0 Bo (W.setCell ⟨Bo, 0, none⟩ v') v' out' := by
  have hs : ∀ j, j ≠ Bo → (W.setCell ⟨Bo, 0, none⟩ v').heap[j]? = W.heap[j]? := fun j hj => Below.heap_setCell _ _ _ _ hj
  refine ⟨h.os, h.tape, h.output, by simpa using h.size, fun k hk h1 => (hs k h1).trans (h.same k hk h1), ?_, ?_⟩
  · simp [World.setCell, Array.getElem?_modify, h.cell]
  · refine ho.kept (row := some Bo) ⟨rfl, rfl, rfl, by simp, fun j _ hj => hs j (fun e => hj (by rw [e]))⟩ ?_
    cases hv : v'.ownBlock with
    | none => exact .inl rfl
    | some j => right; intro e; have := ho.lt j hv; cases e; omega

theorem LEnv.grown {W0 W W' : World} {Bo : Nat} {v v' : Value} {out out' : List Int} (h : LEnv W0 Bo W v out) (hBo : Bo < W0.heap.size) (hg : W.grownBy W' v.ownBlock) (ho : W'.ownsRow W0.heap.size 3 1 v' out'.length (out'.map (Value.int .i64))) : LEnv W0 Bo (W'.setCell ⟨Bo, 0, none⟩ v') v' out' ∧ W'.heap[Bo]? = some (.cells #[v] 25 (0, 0)) := by
  have hne : ∀ k, k < W0.heap.size → some k ≠ v.ownBlock := fun k hk e => by have := h.own.lt k e.symm; omega
  have hb : W'.heap[Bo]? = some (.cells #[v] 25 (0, 0)) := (hg.block Bo (Nat.lt_of_lt_of_le hBo h.size) (hne Bo hBo)).trans h.cell
  have hs : ∀ j, j ≠ Bo → (W'.setCell ⟨Bo, 0, none⟩ v').heap[j]? = W'.heap[j]? := fun j hj => Below.heap_setCell _ _ _ _ hj
  refine ⟨⟨hg.os.trans h.os, hg.tape.trans h.tape, hg.output.trans h.output, Nat.le_trans h.size (by simpa using hg.size), fun k hk h1 => ((hs k h1).trans (hg.block k (Nat.lt_of_lt_of_le hk h.size) (hne k hk))).trans (h.same k hk h1), ?_, ?_⟩, hb⟩
  · simp [World.setCell, Array.getElem?_modify, hb]
  · refine ho.kept (row := some Bo) ⟨rfl, rfl, rfl, by simp, fun j _ hj => hs j (fun e => hj (by rw [e]))⟩ ?_
    cases hv : v'.ownBlock with
    | none => exact .inl rfl
    | some j => right; intro e; have := ho.lt j hv; cases e; omega

set_option maxRecDepth 100000 in
set_option maxHeartbeats 4000000 in
theorem leave_any (W0 : World) (Bn Be Bo Bl b o n cap : Nat) (T C err : Int) (l : List Ang) (hcp : LCap W0 Bn Be Bo Bl b o n cap T C err l) (hl : l.length = n) (hok : NetOk l T C) (he0 : 0 ≤ err) (he1 : err ≤ 40) : ∀ (many start : Nat) (out : List Int) (v : Value) (W : World), many ≤ 20 → start ≤ 100 → out.length + many ≤ 50 → LEnv W0 Bo W v out →
    Calls Try.prog 82 #[.int .i64 start, .int .i64 many, .pointer (some ⟨Bn, 0, none⟩), .pointer (some ⟨Be, 0, none⟩), .pointer (some ⟨Bo, 0, none⟩), .pointer (some ⟨Bl, 0, none⟩)] W (LPost W0 Bo out (leaveF (canE l T C err) n many out start)) := by
  have hn12 : n ≤ 12 := by rw [← hl]; exact hok.len
  have lN := (Array.getElem?_eq_some_iff.1 hcp.net).1
  have lE := (Array.getElem?_eq_some_iff.1 hcp.er).1
  have lL := (Array.getElem?_eq_some_iff.1 hcp.fn).1
  have lO := hcp.lo
  intro many
  induction many with
  | zero => intro start out v W _ _ ho hE; exact leave_zero W0 Bn Be Bo Bl b o n cap T C err l hcp hl hok he0 he1 start out (by omega) v W hE
  | succ m ih =>
    intro start out v W hm hst ho hE
    have IH := Lib.hid ih
    have HCP := Lib.hid hcp
    obtain ⟨i0, hi0, hz0, hz1, hz2⟩ := info_parts Try.info3
    obtain ⟨f, hf⟩ : ∃ f : Nat → Option (List Int), (fun i : Nat => leaveF (canE l T C err) n m (out ++ [(i : Int)]) (i + 1)) = f := ⟨_, rfl⟩
    have hres : leaveF (canE l T C err) n (m + 1) out start = firstSome f (n - m - start) start := by rw [← hf]; rfl
    have HRES := Lib.hid hres
    have HF := Lib.hid hf
    have HE := Lib.hid hE
    have hm1 : (((m : Int) + 1) == 0) = false := by simp; omega
    rw [show (((m + 1 : Nat)) : Int) = (m : Int) + 1 from by omega]
    clear ih hcp hres hf hE
    go_enter Try.func82, Try.ntmps82
    go_wp2_with fail
    go_loopw [9] (LRel W0 Bo out f start (n - m)) (fun i _ => n + 1 - (intOf i).toNat)
    case atStart => exact ⟨start, by omega, .inr rfl, rfl, fun j h1 h2 => by omega, v, HE.out⟩
    case round =>
      clear HE
      obtain ⟨k, hk0, hk1, rfl, hno, v1, hE⟩ := hrel
      have HNO := Lib.hid hno
      clear hno
      have hn0 := (hE.same Bn lN HCP.out.n1).trans HCP.out.net
      have c0 : wr.cell? ⟨Bn, 0, none⟩ = some (.slice (some ⟨b, o, none⟩) n cap) := by simp [World.cell?, hn0]
      have c4 : wr.cell? ⟨Bo, 0, none⟩ = some v1 := by simp [World.cell?, hE.cell]
      have hsz := hE.size
      have hk100 : k ≤ 112 := by omega
      clear hn0
      by_cases hlt : k < n - m
      · have hlt' : decide ((k : Int) ≤ (n : Int) - ((m : Int) + 1)) = true := by simp; omega
        have hE1 := hE.keep ((Below.refl _ wr).alloc (Nat.le_refl _) (.cells #[.int .i64 k] 3))
        have HE1 := Lib.hid hE1
        clear hE hE1
        go_wp2_with (at_builtin; refine wpList_append_own _ rfl _ _ 25 rfl W0.heap.size 3 i0 (.int .i64 0) 1 8 Try.underlying25 hi0 hz0 hz1 hz2 rfl (by decide) _ _ _ rfl HE1.out.own ⟨wr.heap.size, 0, none⟩ 1 1 [.int .i64 k] rfl rfl ?c1 ?c2 ?c3 ?c4 ?c5 ?_)
        case c1 => exact World.news_of_block (cs := #[.int .i64 k]) (t := 3) (fr := (0, 0)) (Go.heap_alloc_new wr _)
        case c2 => simp [Value.oneCell']
        case c3 => unfold maxLen; omega
        case c4 => omega
        case c5 => simp; omega
        intro v2 w1 hown1 hgrow hnil2
        obtain ⟨g2, cap2, hv2, hcap2⟩ := own_form hown1
        rw [hv2] at hown1 ⊢
        clear hnil2; clear hv2; clear v2
        have hown2 : w1.ownsRow W0.heap.size 3 1 (.slice (some ⟨g2, 0, none⟩) (out.length + 1) cap2) (out ++ [(k : Int)]).length ((out ++ [(k : Int)]).map (Value.int .i64)) := by
          rw [List.map_append, List.length_append]; exact hown1
        obtain ⟨hE2, hb2⟩ := HE1.out.grown lO hgrow hown2
        have d4 : w1.cell? ⟨Bo, 0, none⟩ = some v1 := by simp [World.cell?, hb2]
        have z4 : w1.frozen? ⟨Bo, 0, none⟩ = false := by simp [World.frozen?, hb2]
        have hL2 := (hE2.same Bl lL HCP.out.n3).trans HCP.out.fn
        have hnl := HCP.out.n3
        have hnl' : Bo ≠ Bl := fun e => hnl e.symm
        have d5 : (w1.setCell ⟨Bo, 0, none⟩ (.slice (some ⟨g2, 0, none⟩) (out.length + 1) cap2)).cell? ⟨Bl, 0, none⟩ = some (.func (.func 82) #[] #[.pointer (some ⟨Bn, 0, none⟩), .pointer (some ⟨Be, 0, none⟩), .pointer (some ⟨Bo, 0, none⟩), .pointer (some ⟨Bl, 0, none⟩)]) := by simp [World.cell?, hL2]
        have d6 : w1.cell? ⟨Bl, 0, none⟩ = some (.func (.func 82) #[] #[.pointer (some ⟨Bn, 0, none⟩), .pointer (some ⟨Be, 0, none⟩), .pointer (some ⟨Bo, 0, none⟩), .pointer (some ⟨Bl, 0, none⟩)]) := by
          have : (w1.setCell ⟨Bo, 0, none⟩ (.slice (some ⟨g2, 0, none⟩) (out.length + 1) cap2)).heap[Bl]? = w1.heap[Bl]? := Below.heap_setCell _ _ _ _ hnl
          rw [this] at hL2
          simp [World.cell?, hL2]
        have hcall : Calls Try.prog 82 #[.int .i64 ((k : Int) + 1), .int .i64 (m : Int), .pointer (some ⟨Bn, 0, none⟩), .pointer (some ⟨Be, 0, none⟩), .pointer (some ⟨Bo, 0, none⟩), .pointer (some ⟨Bl, 0, none⟩)] (w1.setCell ⟨Bo, 0, none⟩ (.slice (some ⟨g2, 0, none⟩) (out.length + 1) cap2)) (LPost W0 Bo (out ++ [(k : Int)]) (f k)) := by
          have h := IH.out (k + 1) (out ++ [(k : Int)]) (.slice (some ⟨g2, 0, none⟩) (out.length + 1) cap2) _ (by omega) (by omega) (by simp; omega) hE2
          rw [show (((k + 1 : Nat)) : Int) = (k : Int) + 1 from by omega] at h
          have hfk : f k = leaveF (canE l T C err) n m (out ++ [(k : Int)]) (k + 1) := by rw [← HF.out]
          rw [hfk]
          exact h
        have HCALL := Lib.hid hcall
        clear hown1 hgrow hown2 hE2 hb2 hL2 hcall HE1
        go_wp2_with fail
        refine HCALL.out.mono ?_
        rintro e w3 ⟨rfl, v3, hE3⟩
        clear d4 z4 d5 d6 c0 c4 HCALL
        cases hfk : f k with
        | some xs =>
          rw [hfk] at hE3
          have hr : leaveF (canE l T C err) n (m + 1) out start = some xs := by rw [HRES.out]; exact firstSome_some hk0 (by omega) HNO.out hfk
          have hfin : LPost W0 Bo out (leaveF (canE l T C err) n (m + 1) out start) (.returned (.bool true)) w3 := by rw [hr]; exact ⟨rfl, v3, hE3⟩
          have HFIN := Lib.hid hfin
          clear hfin hr hfk hE3
          go_wp2_with fail
          go_ret
          exact HFIN.out
        | none =>
          rw [hfk] at hE3
          have hE3' : LEnv W0 Bo w3 v3 (out ++ [(k : Int)]) := hE3
          have hown3 := hE3'.own
          rw [List.length_append, List.length_singleton] at hown3
          obtain ⟨g3, cap3, rfl, hcap3⟩ := own_form hown3
          rw [List.map_append, List.map_singleton] at hown3
          have hpop := own_pop hown3 (by simp)
          have hEf := Lib.hid (hE3'.store lO hpop)
          have d4 : w3.cell? ⟨Bo, 0, none⟩ = some (.slice (some ⟨g3, 0, none⟩) (out.length + 1) cap3) := by simp [World.cell?, hE3'.cell]
          have z4 : w3.frozen? ⟨Bo, 0, none⟩ = false := by simp [World.frozen?, hE3'.cell]
          have HFK := Lib.hid hfk
          clear hE3 hE3' hown3 hpop hfk
          go_wp2_with fail
          go_roundw
          case rel => exact ⟨k + 1, by omega, .inl (by omega), by go_num, (fun j h1 h2 => by
            by_cases e : j = k
            · rw [e]; exact HFK.out
            · exact HNO.out j h1 (by omega)), _, hEf.out⟩
          case measure => simp [intOf]; omega
      · have hlt' : decide ((k : Int) ≤ (n : Int) - ((m : Int) + 1)) = false := by simp; omega
        have hr : leaveF (canE l T C err) n (m + 1) out start = none := by rw [HRES.out]; exact firstSome_none (fun j h1 h2 => HNO.out j h1 (by omega))
        have hfin : LPost W0 Bo out (leaveF (canE l T C err) n (m + 1) out start) (.returned (.bool false)) wr := by rw [hr]; exact ⟨rfl, v1, hE⟩
        have HFIN := Lib.hid hfin
        clear hfin hr hE
        go_wp2_with fail
        go_ret
        exact HFIN.out
end Go.Proofs.Ytkloaeaepjoijaa

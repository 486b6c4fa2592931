/-
  Prove.
-/
import Derived.Test.YtkloaeaepjoijaaWalk94
import Derived.Test.YtkloaeaepjoijaaCutLists
set_option linter.all false
namespace Go.Proofs.Ytkloaeaepjoijaa
open Go.RowKit Go.WalkArith

/-- How it stands when the work has begun. -/
structure BegCut (w1 : World) (Bp : Nat) (A : Option Addr) (n cap : Nat) (T C : Int) (l : List Ang) (lo hi : Int → Int) (g b : Nat) (due : Int) (wc : World) : Prop where
  below : Below w1.heap.size w1 wc
  bp : w1.heap.size ≤ Bp
  box : Boxed wc Bp 136 (.pointer (some ⟨g, 0, none⟩))
  gb : w1.heap.size ≤ g
  bb : w1.heap.size ≤ b
  sl : wc.cell? ⟨g, 0, none⟩ = some (.slice A n cap)
  mp : wc.cell? ⟨g, 3, none⟩ = some (.map (some b))
  map : ArcMap wc b (initF n (frL l) (toL l) (fun i => hi i - lo i) (giveN n T C (frL l) (toL l) lo))
  due : due = sumR 11 (fun v => max 0 (giveN n T C (frL l) (toL l) lo v))

theorem cut_zero {W : World} {B : Nat} (m1 : W.heap[B]? = some (.cells #[.slice none 0 0, .slice none 0 0] 37 (0, 0))) :
    ((W.setCell ⟨B, 0, none⟩ (.slice none 0 0)).setCell ⟨B, 1, none⟩ (.slice none 0 0)).heap[B]? = some (.cells #[.slice none 0 0, .slice none 0 0] 37 (0, 0)) := by
  simp [World.setCell, Array.getElem?_modify, m1]
theorem cut_two {W : World} {B : Nat} {a b c d : Value} (m1 : W.heap[B]? = some (.cells #[a, b] 37 (0, 0))) :
    ((W.setCell ⟨B, 0, none⟩ c).setCell ⟨B, 1, none⟩ d).heap[B]? = some (.cells #[c, d] 37 (0, 0)) := by
  simp [World.setCell, Array.getElem?_modify, m1]
theorem cut_set0 {W : World} {B : Nat} {a b c : Value} (m1 : W.heap[B]? = some (.cells #[a, b] 37 (0, 0))) : (W.setCell ⟨B, 0, none⟩ c).heap[B]? = some (.cells #[c, b] 37 (0, 0)) := by
  simp [World.setCell, Array.getElem?_modify, m1]
theorem cut_set1 {W : World} {B : Nat} {a b c : Value} (m1 : W.heap[B]? = some (.cells #[a, b] 37 (0, 0))) : (W.setCell ⟨B, 1, none⟩ c).heap[B]? = some (.cells #[a, c] 37 (0, 0)) := by
  simp [World.setCell, Array.getElem?_modify, m1]
theorem cut_cells {W : World} {B : Nat} {a b : Value} (m1 : W.heap[B]? = some (.cells #[a, b] 37 (0, 0))) :
    W.cell? ⟨B, 0, none⟩ = some a ∧ W.cell? ⟨B, 1, none⟩ = some b ∧ W.frozen? ⟨B, 0, none⟩ = false ∧ W.frozen? ⟨B, 1, none⟩ = false := by
  refine ⟨?_, ?_, ?_, ?_⟩ <;> simp [World.cell?, World.frozen?, m1]

/-- In the first loop: some triangles are told. -/
def CRel1 (m : Int → Bool) (W5 : World) (top : Nat) (i : Value) (wr : World) : Prop :=
  ∃ k : Nat, k ≤ top ∧ i = .int .i64 k ∧ ∃ vt, wr.heap[W5.heap.size]? = some (.cells #[vt, .slice none 0 0] 37 (0, 0)) ∧ wr.ownsRow (W5.heap.size + 1) 3 1 vt (setL m 0 k).length ((setL m 0 k).map (Value.int .i64)) ∧ Below W5.heap.size W5 wr
/-- In the second one: some circles. -/
def CRel2 (m : Int → Bool) (W7 : World) (Bc : Nat) (vt : Value) (top : Nat) (i : Value) (wr : World) : Prop :=
  ∃ k : Nat, k ≤ top ∧ i = .int .i64 k ∧ ∃ vc, wr.heap[Bc]? = some (.cells #[vt, vc] 37 (0, 0)) ∧ wr.ownsRow W7.heap.size 3 1 vc (setL m 5 k).length ((setL m 5 k).map (Value.int .i64)) ∧ MKeep Bc W7 wr

theorem IntsAt.of_m {W W' : World} {v : Value} {xs : List Int} {Bo t : Nat} {fr : Nat × Nat} {a d : Option Addr} {b c e f : Nat} (h : IntsAt W v xs) (ho : MKeep Bo W W') (hk : W.heap[Bo]? = some (.cells #[.slice a b c, .slice d e f] t fr)) : IntsAt W' v xs := by
  obtain ⟨A, cap, rfl, h2⟩ := h
  refine ⟨A, cap, rfl, ?_⟩
  rcases h2 with h2 | ⟨g, o, rfl, h4⟩
  · exact .inl h2
  · refine .inr ⟨g, o, rfl, fun i hi => ?_⟩
    have hc := h4 i hi
    refine ho.cell hc ?_
    intro e
    subst e
    simp only [World.cell?, hk] at hc
    obtain h | h | h : o + i = 0 ∨ o + i = 1 ∨ 2 ≤ o + i := by omega
    · rw [h] at hc; simp at hc
    · rw [h] at hc; simp at hc
    · rw [Array.getElem?_eq_none (by simpa using h)] at hc; cases hc

def seen11 : Array Value := #[.bool false, .bool false, .bool false, .bool false, .bool false, .bool false, .bool false, .bool false, .bool false, .bool false, .bool false, .bool true, .bool false]

/-- What can be reached is found. -/
def ReachPost (b len : Nat) (f : Int → Int → Int → Int) (wr : World) (e : Ending) (w' : World) : Prop :=
  e = .returned (.tuple #[]) ∧ Below wr.heap.size wr w' ∧ ∃ s : Int → Bool, SeenAt w' wr.heap.size s ∧ s 11 = true ∧
    (∀ u v j : Nat, u < 13 → v < 13 → j < len + 1 → s u = true → s v = false → f u v ((j : Int) - 1) = 0) ∧
    ∀ K : Int → Bool, K 11 = true → (∀ u v j : Nat, u < 13 → v < 13 → j < len + 1 → K u = true → K v = false → f u v ((j : Int) - 1) = 0) → ∀ v : Int, 0 ≤ v → v < 13 → s v = true → K v = true

theorem reach_first (g b len wv : Nat) (f : Int → Int → Int → Int) (wr : World) (hlen : len ≤ 100) (hnn : ∀ x y z, 0 ≤ f x y z) (hsl : ∃ A cap, wr.cell? ⟨g, 0, none⟩ = some (.slice A len cap)) (hmp : wr.cell? ⟨g, 3, none⟩ = some (.map (some b)))
    (hm : ArcMap wr b f) (hbx : wr.cell? ⟨wv, 0, none⟩ = some (.pointer (some ⟨g, 0, none⟩))) :
    Calls Try.prog 94 #[.int .i64 11, .pointer (some ⟨wv, 0, none⟩), .pointer (some ⟨wr.heap.size, 0, none⟩), .pointer (some ⟨wr.heap.size + 1, 0, none⟩)]
      ((wr.alloc (.cells seen11 140)).alloc (.cells #[.func (.func 94) #[] #[.pointer (some ⟨wv, 0, none⟩), .pointer (some ⟨wr.heap.size, 0, none⟩), .pointer (some ⟨wr.heap.size + 1, 0, none⟩)]] 141)) (ReachPost b len f wr) := by
  obtain ⟨A, cap, hA⟩ := hsl
  obtain ⟨FV, hFV⟩ : ∃ FV, Value.func (.func 94) #[] #[.pointer (some ⟨wv, 0, none⟩), .pointer (some ⟨wr.heap.size, 0, none⟩), .pointer (some ⟨wr.heap.size + 1, 0, none⟩)] = FV := ⟨_, rfl⟩
  rw [hFV]
  have hB : Below wr.heap.size wr ((wr.alloc (.cells seen11 140)).alloc (.cells #[FV] 141)) := ((Below.refl _ _).alloc (Nat.le_refl _) _).alloc (by simp) _
  have hseen : SeenAt ((wr.alloc (.cells seen11 140)).alloc (.cells #[FV] 141)) wr.heap.size (mark (fun _ => false) 11) := by
    refine ⟨seen11, 140, (Below.heap_alloc _ _ _ (by simp)).trans (Go.heap_alloc_new wr _), rfl, fun i hi => ?_⟩
    have : ∀ i : Fin 13, seen11[i.1]? = some (.bool (mark (fun _ => false) 11 ((i.1 : Nat) : Int))) := by intro i; match i with | ⟨0, _⟩ | ⟨1, _⟩ | ⟨2, _⟩ | ⟨3, _⟩ | ⟨4, _⟩ | ⟨5, _⟩ | ⟨6, _⟩ | ⟨7, _⟩ | ⟨8, _⟩ | ⟨9, _⟩ | ⟨10, _⟩ | ⟨11, _⟩ | ⟨12, _⟩ => rfl
    exact this ⟨i, hi⟩
  have hkv : Boxed ((wr.alloc (.cells seen11 140)).alloc (.cells #[FV] 141)) (wr.heap.size + 1) 141 FV := by
    have := Boxed.new (wr.alloc (.cells seen11 140)) 141 FV
    simpa using this
  have hsz : ((wr.alloc (.cells seen11 140)).alloc (.cells #[FV] 141)).heap.size = wr.heap.size + 2 := by simp
  generalize (wr.alloc (.cells seen11 140)).alloc (.cells #[FV] 141) = X at *
  have hE : PEnv X wr.heap.size wv (wr.heap.size + 1) g b len (mark (fun _ => false) 11) f :=
    ⟨hseen, (hB.cell (p := ⟨wv, 0, none⟩) (World.block_lt_of_cell? wr _ hbx)).trans hbx, by rw [hFV]; exact hkv.cell, ⟨A, cap, (hB.cell (p := ⟨g, 0, none⟩) (World.block_lt_of_cell? wr _ hA)).trans hA⟩, (hB.cell (p := ⟨g, 3, none⟩) (World.block_lt_of_cell? wr _ hmp)).trans hmp, hm.of_block (hB.block _ hm.lt)⟩
  refine (walk94_any wr.heap.size wv (wr.heap.size + 1) g b len hlen (unseen (mark (fun _ => false) 11) + 1) 11 (mark (fun _ => false) 11) f X (by omega) (by omega) (mark_self _ _) hE).mono ?_
  rintro e w' ⟨rfl, hk, hm', s', h1, h2, h3, h4⟩
  refine ⟨rfl, ⟨hk.os.trans hB.os, hk.tape.trans hB.tape, hk.output.trans hB.output, Nat.le_trans hB.size hk.size, fun j hj => ?_⟩, s', h1, h2 _ (mark_self _ _), ?_, ?_⟩
  · by_cases e : j = b
    · subst e; exact hm'.trans (hB.block _ hj)
    · exact (hk.block j (Nat.lt_of_lt_of_le hj hB.size) (by omega) e).trans (hB.block _ hj)
  · intro u v j hu hv hj hsu hsv
    have hn := hnn u v ((j : Int) - 1)
    rcases Int.lt_or_le 0 (f u v ((j : Int) - 1)) with hp | hp
    · have := h3 u v ((j : Int) - 1) (by omega) (by omega) hsu (by
        by_cases e : (u : Int) = 11
        · exact .inr e
        · left; unfold mark; rw [if_neg e]) (by omega) (by omega) (by omega) (by omega) hp
      rw [this] at hsv; cases hsv
    · omega
  · intro K hK hc v h0 h13 hv
    refine h4 K (fun u v i h1 h2 h3 h4 h5 h6 h7 h8 => ?_) (fun v h1 h2 h3 => ?_) v h0 h13 hv
    · obtain ⟨u', rfl⟩ := Int.eq_ofNat_of_zero_le h1
      obtain ⟨v', rfl⟩ := Int.eq_ofNat_of_zero_le h3
      obtain ⟨j, hj⟩ := Int.eq_ofNat_of_zero_le (show 0 ≤ i + 1 by omega)
      cases e : K v' with
      | true => rfl
      | false =>
        have := hc u' v' j (by omega) (by omega) (by omega) h7 e
        rw [show (j : Int) - 1 = i by omega] at this
        omega
    · unfold mark at h3
      split at h3
      · rename_i e; rw [e]; exact hK
      · cases h3

theorem keepAA3 {w : World} {o o' : Obj} {a b c : Addr} {x y z : Value} (h : (w.alloc o).cell? a = some x ∧ (w.alloc o).cell? b = some y ∧ (w.alloc o).cell? c = some z) (ha : a.block < w.heap.size) (hb : b.block < w.heap.size) (hc : c.block < w.heap.size) :
    (w.alloc o').cell? a = some x ∧ (w.alloc o').cell? b = some y ∧ (w.alloc o').cell? c = some z := by
  rw [World.cell?_alloc_lt _ _ _ ha, World.cell?_alloc_lt _ _ _ hb, World.cell?_alloc_lt _ _ _ hc] at h ⊢
  exact h
theorem keepSC3 {w : World} {p : Addr} {v : Value} {a b c : Addr} {x y z : Value} (h : w.cell? a = some x ∧ w.cell? b = some y ∧ w.cell? c = some z) (ha : a.block ≠ p.block) (hb : b.block ≠ p.block) (hc : c.block ≠ p.block) :
    (w.setCell p v).cell? a = some x ∧ (w.setCell p v).cell? b = some y ∧ (w.setCell p v).cell? c = some z :=
  ⟨(World.cell?_of_block (Below.heap_setCell _ _ _ _ ha)).trans h.1, (World.cell?_of_block (Below.heap_setCell _ _ _ _ hb)).trans h.2.1, (World.cell?_of_block (Below.heap_setCell _ _ _ _ hc)).trans h.2.2⟩

theorem keepS3 {w wx : World} {a b c : Addr} {x y z : Value} (hb : Below w.heap.size w wx) (h : w.cell? a = some x ∧ w.cell? b = some y ∧ w.cell? c = some z) : wx.cell? a = some x ∧ wx.cell? b = some y ∧ wx.cell? c = some z :=
  ⟨cell_later hb h.1, cell_later hb h.2.1, cell_later hb h.2.2⟩

/-- What Prove hands back. -/
def ProvePost (l : List Ang) (T C err : Int) (w : World) (e : Ending) (w' : World) : Prop :=
  Below w.heap.size w w' ∧ ∃ (At Ac : Option Addr) (tc cc : Nat) (ts cs : List Int) (E : Int), e = .returned (.tuple #[.agg #[.slice At ts.length tc, .slice Ac cs.length cc], .int .i64 E]) ∧ IntsAt w' (.slice At ts.length tc) ts ∧ IntsAt w' (.slice Ac cs.length cc) cs ∧ ts.length ≤ 5 ∧ cs.length ≤ 5 ∧
    ((askedL l T C err ≠ 0 ∧ ts = [] ∧ cs = [] ∧ E = askedL l T C err) ∨ (askedL l T C err = 0 ∧ canE l T C err [] = true ∧ ts = [] ∧ cs = [] ∧ E = 7) ∨ (askedL l T C err = 0 ∧ canE l T C err [] = false ∧ provesB l T C err ts cs = true ∧ E = 0))

set_option maxRecDepth 100000 in
set_option maxHeartbeats 1000000 in
theorem prove_any (A : Option Addr) (n cap : Nat) (T C err : Int) (l : List Ang) (w : World) (hn : n ≤ 1000000) (hl : l.length = n) (hA : AngsAt w A l) :
    Calls Try.prog 64 #[.agg #[.slice A n cap, .int .i64 T, .int .i64 C], .int .i64 err] w (ProvePost l T C err w) := by
  have hB : Below w.heap.size w ((w.alloc (.cells #[.slice A n cap, .int .i64 T, .int .i64 C] 33)).alloc (.cells #[.slice none 0 0, .slice none 0 0] 37)) := ((Below.refl _ _).alloc (Nat.le_refl _) _).alloc (by simp) _
  have hn0 : ((w.alloc (.cells #[.slice A n cap, .int .i64 T, .int .i64 C] 33)).alloc (.cells #[.slice none 0 0, .slice none 0 0] 37)).heap[w.heap.size]? = some (.cells #[.slice A n cap, .int .i64 T, .int .i64 C] 33 (0, 0)) := (Below.heap_alloc _ _ _ (by simp)).trans (heap_new_at _ _ _ rfl)
  have hn1 : ((w.alloc (.cells #[.slice A n cap, .int .i64 T, .int .i64 C] 33)).alloc (.cells #[.slice none 0 0, .slice none 0 0] 37)).heap[w.heap.size + 1]? = some (.cells #[.slice none 0 0, .slice none 0 0] 37 (0, 0)) := heap_new_at _ _ _ (by simp)
  have hck := Lib.hid (asked_any A n cap T C err l _ hn hl (hA.keep hB (Nat.le_refl _)))
  have HB := Lib.hid hB
  have N0 := Lib.hid hn0
  have N1 := Lib.hid hn1
  have HA := Lib.hid hA
  have HL := Lib.hid hl
  clear hB hn0 hn1 hA hl
  go_enter Try.func64, Try.ntmps64
  by_cases hf : askedL l T C err = 0
  rotate_left
  · obtain ⟨Q, hQ⟩ : ∃ Q, askedL l T C err = Q := ⟨_, rfl⟩
    rw [hQ] at hck hf
    have hne : (Q != 0) = true := by simpa using hf
    have HQ := Lib.hid hQ
    have HF := Lib.hid hf
    clear hQ hf
    go_wp2_with fail
    refine hck.out.mono ?_
    rintro e w1 ⟨rfl, hb1⟩
    have m1 := (hb1.block (w.heap.size + 1) (by simp)).trans N1.out
    have f0 : w1.frozen? ⟨w.heap.size + 1, 0, none⟩ = false := by simp [World.frozen?, m1]
    have f1 : w1.frozen? ⟨w.heap.size + 1, 1, none⟩ = false := by simp [World.frozen?, m1]
    have y0 : w1.cell? ⟨w.heap.size + 1, 0, none⟩ = some (.slice none 0 0) := by simp [World.cell?, m1]
    have y1 : w1.cell? ⟨w.heap.size + 1, 1, none⟩ = some (.slice none 0 0) := by simp [World.cell?, m1]
    have HB1 := Lib.hid (HB.out.trans (hb1.mono HB.out.size))
    go_wp2_with fail
    have hsz1 := HB1.out.size
    have e0 : (w1.setCell ⟨w.heap.size + 1, 0, none⟩ (.slice none 0 0)).heap[w.heap.size + 1]? = some (.cells #[.slice none 0 0, .slice none 0 0] 37 (0, 0)) := by simp [World.setCell, Array.getElem?_modify, m1]
    have e1 : ((w1.setCell ⟨w.heap.size + 1, 0, none⟩ (.slice none 0 0)).setCell ⟨w.heap.size + 1, 1, none⟩ (.slice none 0 0)).heap[w.heap.size + 1]? = some (.cells #[.slice none 0 0, .slice none 0 0] 37 (0, 0)) := by simp [World.setCell, Array.getElem?_modify, m1]
    have hB2 := Lib.hid ((HB1.out.setCell (p := ⟨w.heap.size + 1, 0, none⟩) (by simp) (.slice none 0 0)).setCell (p := ⟨w.heap.size + 1, 1, none⟩) (by simp) (.slice none 0 0))
    clear m1 f0 f1 y0 y1 e0
    generalize (w1.setCell ⟨w.heap.size + 1, 0, none⟩ (.slice none 0 0)).setCell ⟨w.heap.size + 1, 1, none⟩ (.slice none 0 0) = w2 at e1 hB2 ⊢
    have z0 : w2.cell? ⟨w.heap.size + 1, 0, none⟩ = some (.slice none 0 0) := by simp [World.cell?, e1]
    have z1 : w2.cell? ⟨w.heap.size + 1, 1, none⟩ = some (.slice none 0 0) := by simp [World.cell?, e1]
    refine bodyPost_ret (v := .tuple #[.agg #[.slice none 0 0, .slice none 0 0], .int .i64 Q]) (by simp [results, Try.results64, go_sem, z0, z1]) rfl ?_
    exact ⟨hB2.out, none, none, 0, 0, [], [], Q, rfl, IntsAt.nil _, IntsAt.nil _, by simp, by simp, .inl ⟨by rw [HQ.out]; exact HF.out, rfl, rfl, HQ.out.symm⟩⟩
  · obtain ⟨hok, he0, he1⟩ := askedL_ok hf
    obtain ⟨b, o, rfl⟩ := HA.out.some (by rw [← HL.out] at *; exact hok.pos)
    have HO := Lib.hid hok
    rw [hf] at hck
    have HF0 := Lib.hid hf
    clear hok hf
    go_wp2_with fail
    refine hck.out.mono ?_
    rintro e w1 ⟨rfl, hb1⟩
    have m0 := (hb1.block w.heap.size (by simp; omega)).trans N0.out
    have m1 := (hb1.block (w.heap.size + 1) (by simp)).trans N1.out
    have l1 := (Array.getElem?_eq_some_iff.1 m1).1
    have c0 : w1.cell? ⟨w.heap.size, 0, none⟩ = some (.slice (some ⟨b, o, none⟩) n cap) := by simp [World.cell?, m0]
    have c1 : w1.cell? ⟨w.heap.size, 1, none⟩ = some (.int .i64 T) := by simp [World.cell?, m0]
    have c2 : w1.cell? ⟨w.heap.size, 2, none⟩ = some (.int .i64 C) := by simp [World.cell?, m0]
    have HB1 := Lib.hid (HB.out.trans (hb1.mono HB.out.size))
    have M0 := Lib.hid m0
    have M1 := Lib.hid m1
    clear m0 m1 hb1 hck N0 N1 HB
    have hr := Lib.hid (rooms_any b o n cap T C l err (.slice none 0 0) [] w1.drew HL.out HO.out (HA.out.keep HB1.out.drew (Nat.le_refl _)) he0 he1 (IntsAt.nil _) (by simp))
    go_wp2_with fail
    obtain ⟨R, hR⟩ : ∃ R : List Int, ([] : List Int) = R := ⟨_, rfl⟩
    have hX : ∀ X, Below w1.heap.size w1 X → AngsAt X (some ⟨b, o, none⟩) l := fun X h => HA.out.keep (HB1.out.trans (h.mono HB1.out.size)) (Nat.le_refl _)
    have HX := Lib.hid hX
    clear hX hr
    go_cut [7, 8] from 7 to 29 (fun s7 s8 wc => ∃ Bp g mb due, s7 = .pointer (some ⟨Bp, 0, none⟩) ∧ s8 = .int .i64 due ∧ BegCut w1 Bp (some ⟨b, o, none⟩) n cap T C l (roomLo l err []) (roomHi l err []) g mb due wc)
    case first =>
      refine wp_region_held_drew (S := fun X => X.cell? ⟨w.heap.size, 0, none⟩ = some (.slice (some ⟨b, o, none⟩) n cap) ∧ X.cell? ⟨w.heap.size, 1, none⟩ = some (.int .i64 T) ∧ X.cell? ⟨w.heap.size, 2, none⟩ = some (.int .i64 C)) (by kernel_rfl) (⟨c0, c1, c2⟩) (fun hS0 => ?_)
      refine wpAnyH_take (i := 0) (oi := { dst := some 23, op := Op.load 33 (Operand.tmp 2), type := 33, pos := "ask.go:148", after := #[], guard := none }) (v := ?_) rfl (by kernel_rfl) (by kernel_rfl) (by kernel_rfl) (fun _ _ _ h => h) (Or.inl ⟨by rfl, ?_⟩) hS0 ?_
      rotate_left
      · intro X hX
        obtain ⟨x0, x1, x2⟩ := hX
        go_simp
        try with_reducible rfl
      simp only [Act.put, List.setIfInBounds_toArray, List.set_cons_zero, List.set_cons_succ, Array.toArray_toList]
      refine wpAnyH_take (i := 1) (oi := { dst := some 24, op := Op.load 33 (Operand.tmp 2), type := 33, pos := "ask.go:148", after := #[], guard := none }) (v := ?_) rfl (by kernel_rfl) (by kernel_rfl) (by kernel_rfl) (fun _ _ _ h => h) (Or.inl ⟨by rfl, ?_⟩) hS0 ?_
      rotate_left
      · intro X hX
        obtain ⟨x0, x1, x2⟩ := hX
        go_simp
        try with_reducible rfl
      simp only [Act.put, List.setIfInBounds_toArray, List.set_cons_zero, List.set_cons_succ, Array.toArray_toList]
      refine wpAnyH_take (i := 2) (oi := { dst := some 25, op := Op.move (Operand.tmp 1), type := 3, pos := "ask.go:148", after := #[], guard := none }) (v := ?_) rfl (by kernel_rfl) (by kernel_rfl) (by kernel_rfl) (fun _ _ _ h => h) (Or.inl ⟨by rfl, ?_⟩) hS0 ?_
      rotate_left
      · intro X hX
        obtain ⟨x0, x1, x2⟩ := hX
        go_simp
        try with_reducible rfl
      simp only [Act.put, List.setIfInBounds_toArray, List.set_cons_zero, List.set_cons_succ, Array.toArray_toList]
      refine wpAnyH_ready (rs := [3, 8]) (by kernel_rfl) (by simp) (AllReadyH.cons (o := { dst := some 26, op := Op.call { callee := Callee.value (Operand.func 67), args := #[Operand.tmp 24, Operand.tmp 25, Operand.const (Value.slice none 0 0)], argTypes := #[33, 3, 25] }, type := 109, pos := "ask.go:148", after := #[{ on := 1, ground := Ground.data }, { on := 2, ground := Ground.data }], guard := none }) rfl (fun K hK => ?_) (AllReadyH.cons (o := { dst := some 7, op := Op.alloc 136, type := 0, pos := "ask.go:148", after := #[], guard := none }) rfl (fun K hK => ?_) AllReadyH.nil))
      · skip
        go_simp
        refine (rooms_any b o n cap T C l err (.slice none 0 0) [] _ HL.out HO.out (HX.out _ ((Below.refl _ _).drew)) he0 he1 (IntsAt.nil _) (by simp)).mono ?_
        rintro e w2 ⟨rs, rfl, hrs, hb2⟩
        have hbb := (Below.refl w1.heap.size w1).drew.trans hb2
        go_wp2_with fail
        refine hK.out _ _ (keepS3 hb2 ⟨c0, c1, c2⟩) (fun hS1 => ?_)
        clear hS0 hK K
        refine wpAnyH_ready (rs := [4, 8]) (by kernel_rfl) (by simp) (AllReadyH.cons (o := { dst := some 27, op := Op.call { callee := Callee.value (Operand.func 92), args := #[Operand.tmp 23, Operand.tmp 26], argTypes := #[33, 109] }, type := 137, pos := "ask.go:148", after := #[{ on := 0, ground := Ground.data }, { on := 3, ground := Ground.data }, { on := 3, ground := Ground.chain }], guard := none }) rfl (fun K hK => ?_) (AllReadyH.cons (o := { dst := some 7, op := Op.alloc 136, type := 0, pos := "ask.go:148", after := #[], guard := none }) rfl (fun K hK => ?_) AllReadyH.nil))
        · skip
          go_simp
          refine (begin_any b o n cap T C l rs _ _ w2 HL.out HO.out (HX.out _ hbb) hrs (HL.out ▸ rooms_ok HO.out he0 [])).mono ?_
          rintro e w3 ⟨g, mb, due, rfl, hb3, hmb, hgb, hsl, hmp, hmap, hdue⟩
          have HDUE := Lib.hid hdue
          have HMAP := Lib.hid hmap
          clear hdue hmap
          go_wp2_with fail
          refine hK.out _ _ (keepS3 hb3 (keepS3 hb2 ⟨c0, c1, c2⟩)) (fun hS2 => ?_)
          clear hS1 hK K
          refine wpAnyH_take (i := 5) (oi := { dst := some 22, op := Op.move (Operand.tmp 27), type := 137, pos := "ask.go:148", after := #[{ on := 4, ground := Ground.data }], guard := none }) (v := ?_) rfl (by kernel_rfl) (by kernel_rfl) (by kernel_rfl) (fun _ _ _ h => h) (Or.inl ⟨by rfl, ?_⟩) hS2 ?_
          rotate_left
          · intro X hX
            obtain ⟨x0, x1, x2⟩ := hX
            go_simp
            try with_reducible rfl
          simp only [Act.put, List.setIfInBounds_toArray, List.set_cons_zero, List.set_cons_succ, Array.toArray_toList]
          refine wpAnyH_take (i := 6) (oi := { dst := some 28, op := Op.extract (Operand.tmp 22) 0, type := 136, pos := "ask.go:148", after := #[{ on := 5, ground := Ground.data }], guard := none }) (v := ?_) rfl (by kernel_rfl) (by kernel_rfl) (by kernel_rfl) (fun _ _ _ h => h) (Or.inl ⟨by rfl, ?_⟩) hS2 ?_
          rotate_left
          · intro X hX
            obtain ⟨x0, x1, x2⟩ := hX
            go_simp
            try with_reducible rfl
          simp only [Act.put, List.setIfInBounds_toArray, List.set_cons_zero, List.set_cons_succ, Array.toArray_toList]
          refine wpAnyH_take (i := 7) (oi := { dst := some 29, op := Op.extract (Operand.tmp 22) 1, type := 3, pos := "ask.go:148", after := #[{ on := 5, ground := Ground.data }, { on := 9, ground := Ground.gcOnly Departure.lateStores }], guard := none }) (v := ?_) rfl (by kernel_rfl) (by kernel_rfl) (by kernel_rfl) (fun _ _ _ h => h) (Or.inl ⟨by rfl, ?_⟩) hS2 ?_
          rotate_left
          · intro X hX
            obtain ⟨x0, x1, x2⟩ := hX
            go_simp
            try with_reducible rfl
          simp only [Act.put, List.setIfInBounds_toArray, List.set_cons_zero, List.set_cons_succ, Array.toArray_toList]
          refine wpAnyH_ready (rs := [8]) (by kernel_rfl) (by simp) (AllReadyH.cons (o := { dst := some 7, op := Op.alloc 136, type := 0, pos := "ask.go:148", after := #[], guard := none }) rfl (fun K hK => ?_) AllReadyH.nil)
          go_simp
          have hbx := ((Below.refl w3.heap.size w3).alloc (Nat.le_refl _) (.cells #[.pointer (some ⟨g, 0, none⟩)] 136))
          have hby := ((Below.refl w3.heap.size w3).alloc (Nat.le_refl _) (.cells #[.pointer none] 136))
          refine hK.out _ _ (keepS3 hby (keepS3 hb3 (keepS3 hb2 ⟨c0, c1, c2⟩))) (fun hS3 => ?_)
          clear hS2 hK K
          refine wpAnyH_ready (rs := [9]) (by kernel_rfl) (by simp) (AllReadyH.cons (o := { dst := none, op := Op.store 136 (Operand.tmp 7) (Operand.tmp 28), type := 0, pos := "ask.go:148", after := #[{ on := 8, ground := Ground.data }, { on := 6, ground := Ground.data }, { on := 4, ground := Ground.chain }, { on := 0, ground := Ground.phase }, { on := 1, ground := Ground.phase }, { on := 2, ground := Ground.phase }, { on := 3, ground := Ground.phase }, { on := 4, ground := Ground.phase }, { on := 5, ground := Ground.phase }, { on := 6, ground := Ground.phase }, { on := 7, ground := Ground.textOnly Departure.lateStores }, { on := 8, ground := Ground.phase }], guard := none }) rfl (fun K hK => ?_) AllReadyH.nil)
          go_simp
          refine hK.out _ _ (keepS3 hbx (keepS3 hb3 (keepS3 hb2 ⟨c0, c1, c2⟩))) (fun hS4 => ?_)
          clear hS3 hK K
          refine wpAnyH_ready (rs := [10]) (by kernel_rfl) (by simp) (AllReadyH.cons (o := { dst := some 8, op := Op.assign (Operand.tmp 29), type := 3, pos := "ask.go:148", after := #[{ on := 7, ground := Ground.data }, { on := 9, ground := Ground.chain }, { on := 0, ground := Ground.phase }, { on := 1, ground := Ground.phase }, { on := 2, ground := Ground.phase }, { on := 3, ground := Ground.phase }, { on := 4, ground := Ground.phase }, { on := 5, ground := Ground.phase }, { on := 6, ground := Ground.phase }, { on := 7, ground := Ground.phase }, { on := 8, ground := Ground.phase }, { on := 9, ground := Ground.phase }], guard := none }) rfl (fun K hK => ?_) AllReadyH.nil)
          go_simp
          refine hK.out _ _ (hS4) (fun hS5 => ?_)
          clear hS4 hK K
          refine wpAnyH_done (by kernel_rfl) ?_ _
          clear hS5
          have hbA : Below w1.heap.size w1 w3 := hbb.trans (hb3.mono hbb.size)
          go_wp2
          go_meet
          case rel =>
            have hl3 := hb3.size
            have hl2 := hbb.size
            exact ⟨w3.heap.size, g, mb, due, rfl, rfl, hbA.trans (hbx.mono hbA.size), hbA.size, Boxed.new w3 136 _, Nat.le_trans hl2 hgb, Nat.le_trans hl2 hmb, cell_later hbx hsl, cell_later hbx hmp, HMAP.out.of_block (hbx.block _ HMAP.out.lt), HDUE.out⟩
        · skip
          go_simp
          have hbz := ((Below.refl w2.heap.size w2).alloc (Nat.le_refl _) (.cells #[.pointer none] 136))
          refine hK.out _ _ (keepS3 hbz (keepS3 hb2 ⟨c0, c1, c2⟩)) (fun hS2 => ?_)
          clear hS1 hK K
          refine wpAnyH_ready (rs := [4]) (by kernel_rfl) (by simp) (AllReadyH.cons (o := { dst := some 27, op := Op.call { callee := Callee.value (Operand.func 92), args := #[Operand.tmp 23, Operand.tmp 26], argTypes := #[33, 109] }, type := 137, pos := "ask.go:148", after := #[{ on := 0, ground := Ground.data }, { on := 3, ground := Ground.data }, { on := 3, ground := Ground.chain }], guard := none }) rfl (fun K hK => ?_) AllReadyH.nil)
          go_simp
          refine (begin_any b o n cap T C l rs _ _ (w2.alloc (.cells #[.pointer none] 136)) HL.out HO.out (HX.out _ (hbb.trans (hbz.mono (by have := hbb.size; simpa using this)))) hrs (HL.out ▸ rooms_ok HO.out he0 [])).mono ?_
          rintro e w3 ⟨g, mb, due, rfl, hb3, hmb, hgb, hsl, hmp, hmap, hdue⟩
          have HDUE := Lib.hid hdue
          have HMAP := Lib.hid hmap
          clear hdue hmap
          go_wp2_with fail
          refine hK.out _ _ (keepS3 hb3 (keepS3 hbz (keepS3 hb2 ⟨c0, c1, c2⟩))) (fun hS3 => ?_)
          clear hS2 hK K
          refine wpAnyH_take (i := 5) (oi := { dst := some 22, op := Op.move (Operand.tmp 27), type := 137, pos := "ask.go:148", after := #[{ on := 4, ground := Ground.data }], guard := none }) (v := ?_) rfl (by kernel_rfl) (by kernel_rfl) (by kernel_rfl) (fun _ _ _ h => h) (Or.inl ⟨by rfl, ?_⟩) hS3 ?_
          rotate_left
          · intro X hX
            obtain ⟨x0, x1, x2⟩ := hX
            go_simp
            try with_reducible rfl
          simp only [Act.put, List.setIfInBounds_toArray, List.set_cons_zero, List.set_cons_succ, Array.toArray_toList]
          refine wpAnyH_take (i := 6) (oi := { dst := some 28, op := Op.extract (Operand.tmp 22) 0, type := 136, pos := "ask.go:148", after := #[{ on := 5, ground := Ground.data }], guard := none }) (v := ?_) rfl (by kernel_rfl) (by kernel_rfl) (by kernel_rfl) (fun _ _ _ h => h) (Or.inl ⟨by rfl, ?_⟩) hS3 ?_
          rotate_left
          · intro X hX
            obtain ⟨x0, x1, x2⟩ := hX
            go_simp
            try with_reducible rfl
          simp only [Act.put, List.setIfInBounds_toArray, List.set_cons_zero, List.set_cons_succ, Array.toArray_toList]
          refine wpAnyH_take (i := 7) (oi := { dst := some 29, op := Op.extract (Operand.tmp 22) 1, type := 3, pos := "ask.go:148", after := #[{ on := 5, ground := Ground.data }, { on := 9, ground := Ground.gcOnly Departure.lateStores }], guard := none }) (v := ?_) rfl (by kernel_rfl) (by kernel_rfl) (by kernel_rfl) (fun _ _ _ h => h) (Or.inl ⟨by rfl, ?_⟩) hS3 ?_
          rotate_left
          · intro X hX
            obtain ⟨x0, x1, x2⟩ := hX
            go_simp
            try with_reducible rfl
          simp only [Act.put, List.setIfInBounds_toArray, List.set_cons_zero, List.set_cons_succ, Array.toArray_toList]
          have hbx : Boxed w3 w2.heap.size 136 (.pointer none) := (hb3.block _ (by simp)).trans (Go.heap_alloc_new w2 _)
          have fbx := hbx.frozen
          have cbx := hbx.cell
          refine wpAnyH_ready (rs := [9]) (by kernel_rfl) (by simp) (AllReadyH.cons (o := { dst := none, op := Op.store 136 (Operand.tmp 7) (Operand.tmp 28), type := 0, pos := "ask.go:148", after := #[{ on := 8, ground := Ground.data }, { on := 6, ground := Ground.data }, { on := 4, ground := Ground.chain }, { on := 0, ground := Ground.phase }, { on := 1, ground := Ground.phase }, { on := 2, ground := Ground.phase }, { on := 3, ground := Ground.phase }, { on := 4, ground := Ground.phase }, { on := 5, ground := Ground.phase }, { on := 6, ground := Ground.phase }, { on := 7, ground := Ground.textOnly Departure.lateStores }, { on := 8, ground := Ground.phase }], guard := none }) rfl (fun K hK => ?_) AllReadyH.nil)
          go_simp
          refine hK.out _ _ (keepSC3 (keepS3 hb3 (keepS3 hbz (keepS3 hb2 ⟨c0, c1, c2⟩))) (by have := hb2.size; simp at *; omega) (by have := hb2.size; simp at *; omega) (by have := hb2.size; simp at *; omega)) (fun hS4 => ?_)
          clear hS3 hK K
          refine wpAnyH_ready (rs := [10]) (by kernel_rfl) (by simp) (AllReadyH.cons (o := { dst := some 8, op := Op.assign (Operand.tmp 29), type := 3, pos := "ask.go:148", after := #[{ on := 7, ground := Ground.data }, { on := 9, ground := Ground.chain }, { on := 0, ground := Ground.phase }, { on := 1, ground := Ground.phase }, { on := 2, ground := Ground.phase }, { on := 3, ground := Ground.phase }, { on := 4, ground := Ground.phase }, { on := 5, ground := Ground.phase }, { on := 6, ground := Ground.phase }, { on := 7, ground := Ground.phase }, { on := 8, ground := Ground.phase }, { on := 9, ground := Ground.phase }], guard := none }) rfl (fun K hK => ?_) AllReadyH.nil)
          go_simp
          refine hK.out _ _ (hS4) (fun hS5 => ?_)
          clear hS4 hK K
          refine wpAnyH_done (by kernel_rfl) ?_ _
          clear hS5
          have hbA : Below w1.heap.size w1 w3 := (hbb.trans (hbz.mono hbb.size)).trans (hb3.mono (by have := hbb.size; simp; omega))
          have hlz : w2.heap.size < w3.heap.size := hbx.lt
          have hng : g ≠ w2.heap.size := by simp at hgb; omega
          have hnm : mb ≠ w2.heap.size := by simp at hmb; omega
          have hlb := hbb.size
          go_wp2
          go_meet
          case rel =>
            exact ⟨w2.heap.size, g, mb, due, rfl, rfl, hbA.setCell (by simp; omega) _, hlb, Boxed.set _ hbx, by simp at hgb; omega, by simp at hmb; omega, (World.cell?_of_block (Below.heap_setCell _ _ _ _ hng)).trans hsl, (World.cell?_of_block (Below.heap_setCell _ _ _ _ hng)).trans hmp, HMAP.out.of_block (Below.heap_setCell _ _ _ _ hnm), HDUE.out⟩
      · skip
        go_simp
        have hbz := (((Below.refl w1.heap.size w1).drew).alloc (Nat.le_refl _) (.cells #[.pointer none] 136))
        refine hK.out _ _ (keepS3 hbz ⟨c0, c1, c2⟩) (fun hS1 => ?_)
        clear hS0 hK K
        refine wpAnyH_ready (rs := [3]) (by kernel_rfl) (by simp) (AllReadyH.cons (o := { dst := some 26, op := Op.call { callee := Callee.value (Operand.func 67), args := #[Operand.tmp 24, Operand.tmp 25, Operand.const (Value.slice none 0 0)], argTypes := #[33, 3, 25] }, type := 109, pos := "ask.go:148", after := #[{ on := 1, ground := Ground.data }, { on := 2, ground := Ground.data }], guard := none }) rfl (fun K hK => ?_) AllReadyH.nil)
        go_simp
        refine (rooms_any b o n cap T C l err (.slice none 0 0) [] _ HL.out HO.out (HX.out _ hbz) he0 he1 (IntsAt.nil _) (by simp)).mono ?_
        rintro e w2 ⟨rs, rfl, hrs, hb2⟩
        have hbb := hbz.trans (hb2.mono hbz.size)
        go_wp2_with fail
        refine hK.out _ _ (keepS3 hb2 (keepS3 hbz ⟨c0, c1, c2⟩)) (fun hS2 => ?_)
        clear hS1 hK K
        refine wpAnyH_ready (rs := [4]) (by kernel_rfl) (by simp) (AllReadyH.cons (o := { dst := some 27, op := Op.call { callee := Callee.value (Operand.func 92), args := #[Operand.tmp 23, Operand.tmp 26], argTypes := #[33, 109] }, type := 137, pos := "ask.go:148", after := #[{ on := 0, ground := Ground.data }, { on := 3, ground := Ground.data }, { on := 3, ground := Ground.chain }], guard := none }) rfl (fun K hK => ?_) AllReadyH.nil)
        go_simp
        refine (begin_any b o n cap T C l rs _ _ w2 HL.out HO.out (HX.out _ hbb) hrs (HL.out ▸ rooms_ok HO.out he0 [])).mono ?_
        rintro e w3 ⟨g, mb, due, rfl, hb3, hmb, hgb, hsl, hmp, hmap, hdue⟩
        have HDUE := Lib.hid hdue
        have HMAP := Lib.hid hmap
        clear hdue hmap
        go_wp2_with fail
        refine hK.out _ _ (keepS3 hb3 (keepS3 hb2 (keepS3 hbz ⟨c0, c1, c2⟩))) (fun hS3 => ?_)
        clear hS2 hK K
        refine wpAnyH_take (i := 5) (oi := { dst := some 22, op := Op.move (Operand.tmp 27), type := 137, pos := "ask.go:148", after := #[{ on := 4, ground := Ground.data }], guard := none }) (v := ?_) rfl (by kernel_rfl) (by kernel_rfl) (by kernel_rfl) (fun _ _ _ h => h) (Or.inl ⟨by rfl, ?_⟩) hS3 ?_
        rotate_left
        · intro X hX
          obtain ⟨x0, x1, x2⟩ := hX
          go_simp
          try with_reducible rfl
        simp only [Act.put, List.setIfInBounds_toArray, List.set_cons_zero, List.set_cons_succ, Array.toArray_toList]
        refine wpAnyH_take (i := 6) (oi := { dst := some 28, op := Op.extract (Operand.tmp 22) 0, type := 136, pos := "ask.go:148", after := #[{ on := 5, ground := Ground.data }], guard := none }) (v := ?_) rfl (by kernel_rfl) (by kernel_rfl) (by kernel_rfl) (fun _ _ _ h => h) (Or.inl ⟨by rfl, ?_⟩) hS3 ?_
        rotate_left
        · intro X hX
          obtain ⟨x0, x1, x2⟩ := hX
          go_simp
          try with_reducible rfl
        simp only [Act.put, List.setIfInBounds_toArray, List.set_cons_zero, List.set_cons_succ, Array.toArray_toList]
        refine wpAnyH_take (i := 7) (oi := { dst := some 29, op := Op.extract (Operand.tmp 22) 1, type := 3, pos := "ask.go:148", after := #[{ on := 5, ground := Ground.data }, { on := 9, ground := Ground.gcOnly Departure.lateStores }], guard := none }) (v := ?_) rfl (by kernel_rfl) (by kernel_rfl) (by kernel_rfl) (fun _ _ _ h => h) (Or.inl ⟨by rfl, ?_⟩) hS3 ?_
        rotate_left
        · intro X hX
          obtain ⟨x0, x1, x2⟩ := hX
          go_simp
          try with_reducible rfl
        simp only [Act.put, List.setIfInBounds_toArray, List.set_cons_zero, List.set_cons_succ, Array.toArray_toList]
        have hbx : Boxed w3 w1.heap.size 136 (.pointer none) := (hb3.block _ (by have := hb2.size; simp at *; omega)).trans ((hb2.block _ (by simp)).trans (Go.heap_alloc_new w1.drew _))
        have fbx := hbx.frozen
        have cbx := hbx.cell
        refine wpAnyH_ready (rs := [9]) (by kernel_rfl) (by simp) (AllReadyH.cons (o := { dst := none, op := Op.store 136 (Operand.tmp 7) (Operand.tmp 28), type := 0, pos := "ask.go:148", after := #[{ on := 8, ground := Ground.data }, { on := 6, ground := Ground.data }, { on := 4, ground := Ground.chain }, { on := 0, ground := Ground.phase }, { on := 1, ground := Ground.phase }, { on := 2, ground := Ground.phase }, { on := 3, ground := Ground.phase }, { on := 4, ground := Ground.phase }, { on := 5, ground := Ground.phase }, { on := 6, ground := Ground.phase }, { on := 7, ground := Ground.textOnly Departure.lateStores }, { on := 8, ground := Ground.phase }], guard := none }) rfl (fun K hK => ?_) AllReadyH.nil)
        go_simp
        refine hK.out _ _ (keepSC3 (keepS3 hb3 (keepS3 hb2 (keepS3 hbz ⟨c0, c1, c2⟩))) (by simp; omega) (by simp; omega) (by simp; omega)) (fun hS4 => ?_)
        clear hS3 hK K
        refine wpAnyH_ready (rs := [10]) (by kernel_rfl) (by simp) (AllReadyH.cons (o := { dst := some 8, op := Op.assign (Operand.tmp 29), type := 3, pos := "ask.go:148", after := #[{ on := 7, ground := Ground.data }, { on := 9, ground := Ground.chain }, { on := 0, ground := Ground.phase }, { on := 1, ground := Ground.phase }, { on := 2, ground := Ground.phase }, { on := 3, ground := Ground.phase }, { on := 4, ground := Ground.phase }, { on := 5, ground := Ground.phase }, { on := 6, ground := Ground.phase }, { on := 7, ground := Ground.phase }, { on := 8, ground := Ground.phase }, { on := 9, ground := Ground.phase }], guard := none }) rfl (fun K hK => ?_) AllReadyH.nil)
        go_simp
        refine hK.out _ _ (hS4) (fun hS5 => ?_)
        clear hS4 hK K
        refine wpAnyH_done (by kernel_rfl) ?_ _
        clear hS5
        have hbA : Below w1.heap.size w1 w3 := hbb.trans (hb3.mono hbb.size)
        have hl2 : w1.heap.size < w2.heap.size := by have := hb2.size; simp at this; omega
        have hng : g ≠ w1.heap.size := by omega
        have hnm : mb ≠ w1.heap.size := by omega
        go_wp2
        go_meet
        case rel =>
          exact ⟨w1.heap.size, g, mb, due, rfl, rfl, hbA.setCell (by simp) _, Nat.le_refl _, Boxed.set _ hbx, by omega, by omega, (World.cell?_of_block (Below.heap_setCell _ _ _ _ hng)).trans hsl, (World.cell?_of_block (Below.heap_setCell _ _ _ _ hng)).trans hmp, HMAP.out.of_block (Below.heap_setCell _ _ _ _ hnm), HDUE.out⟩
    case rest =>
      obtain ⟨Bp, g, mb, due, rfl, rfl, hct⟩ := hcut
      have hbp := hct.bp
      have hgb := hct.gb
      have hbb := hct.bb
      have hsl := hct.sl
      have hmp := hct.mp
      have bx := hct.box.cell
      have hmap := hct.map
      have hdue := hct.due
      have hbelow := hct.below
      have HBOX := Lib.hid hct.box
      clear hct
      have hro : RoomsOk n (roomLo l err []) (roomHi l err []) := HL.out ▸ rooms_ok HO.out he0 []
      have HRO := Lib.hid hro
      obtain ⟨lo, hlo⟩ : ∃ lo, roomLo l err [] = lo := ⟨_, rfl⟩
      obtain ⟨hi, hhi⟩ : ∃ hi, roomHi l err [] = hi := ⟨_, rfl⟩
      rw [hlo, hhi] at hmap HRO
      rw [hlo] at hdue
      have HLO := Lib.hid hlo
      have HHI := Lib.hid hhi
      clear hlo hhi hro
      have hn12 : n ≤ 12 := by rw [← HL.out]; exact HO.out.len
      have hfr10 : ∀ i : Nat, i < n → 0 ≤ frL l i ∧ frL l i ≤ 10 := fun i hi' => by
        have := HO.out.fr (i := i) (by rw [HL.out]; exact hi')
        have := HO.out.t1
        omega
      have hgb9 : ∀ v : Nat, -1000 ≤ give9 n T C (frL l) (toL l) lo v ∧ give9 n T C (frL l) (toL l) lo v ≤ 1000 := fun v => by
        have := give9_bd T C (frL l) (toL l) lo n v hn12 (fun i hi' => ⟨HRO.out.lo0 i (by omega), by have := HRO.out.le i (by omega); have := HRO.out.hi1 i (by omega); omega⟩)
        omega
      have hNb : ∀ v : Nat, v < 11 → -10000 ≤ giveN n T C (frL l) (toL l) lo v ∧ giveN n T C (frL l) (toL l) lo v ≤ 10000 := fun v hv => by
        have h1 := hgb9 v
        have hb2 := sumR_bd (k := 10) (h := fun u => give9 n T C (frL l) (toL l) lo u) (B := 1000) (fun i _ => hgb9 i)
        unfold giveN
        split <;> omega
      have hcapk : capOk (initF n (frL l) (toL l) (fun i => hi i - lo i) (giveN n T C (frL l) (toL l) lo)) :=
        initF_cap (fun i hi' => by have := HRO.out.lo0 i hi'; have := HRO.out.le i hi'; have := HRO.out.hi1 i hi'; omega) hNb
      have ho11 := out11_init n (frL l) (toL l) (fun i => hi i - lo i) (giveN n T C (frL l) (toL l) lo) hfr10
      have hdb := sum_max_bd (k := 11) (h := fun v => giveN n T C (frL l) (toL l) lo v) (B := 10000) (by omega) (fun i hi => (hNb i (by omega)).2)
      rw [← hdue] at ho11 hdb
      have hgm : g ≠ mb := by rintro rfl; have := cell_map_none hmap 3; rw [this] at hmp; cases hmp
      have hbn : Bp ≠ mb := by rintro rfl; have := cell_map_none hmap 0; rw [bx] at this; cases this
      have hflow := Lib.hid (flow_any g mb n _ wc (by omega) ⟨_, _, hsl⟩ hmp hmap hcapk (by rw [ho11]; omega))
      have HD := Lib.hid hdue
      have HCK := Lib.hid hcapk
      have HBL := Lib.hid (HB1.out.trans (hbelow.mono HB1.out.size))
      have m0 := (hbelow.block w.heap.size (by omega)).trans M0.out
      have m1 := (hbelow.block (w.heap.size + 1) (by omega)).trans M1.out
      have lwc := hbelow.size
      have lmb := hmap.lt
      have lg : g < wc.heap.size := World.block_lt_of_cell? wc _ hmp
      have HM0 := Lib.hid m0
      have HM1 := Lib.hid m1
      have HDB := Lib.hid hdb
      have HO11 := Lib.hid ho11
      clear hdue hcapk hNb hgb9 hmap hfr10 ho11 hbelow m0 m1 hdb c0 c1 c2
      go_wp2_with fail
      refine hflow.out.mono ?_
      clear hflow
      rintro e w2 ⟨sum, f, S, rfl, hs0, hm, hfl, hS1, hS2, hk, hcl⟩
      have HF := Lib.hid hfl
      have HCL := Lib.hid hcl
      have HM := Lib.hid hm
      have HS1 := Lib.hid hS1
      have HS2 := Lib.hid hS2
      have lk := hk.size
      have m0 := (hk.block w.heap.size (by omega) (by omega)).trans HM0.out
      have m1 := (hk.block (w.heap.size + 1) (by omega) (by omega)).trans HM1.out
      have HB2 := Lib.hid (HBL.out.trans (hk.below (B := w.heap.size) (by omega) (by omega)))
      have hfr' : ∀ i : Int, 0 ≤ i → i < (n : Int) → (0 ≤ frL l i ∧ frL l i ≤ 4) ∨ frL l i = 10 := fun i h0 h1 => by
        obtain ⟨j, rfl⟩ := Int.eq_ofNat_of_zero_le h0
        have := HO.out.fr (i := j) (by rw [HL.out]; omega)
        have := HO.out.t1
        omega
      have hto' : ∀ i : Int, 0 ≤ i → i < (n : Int) → (5 ≤ toL l i ∧ toL l i ≤ 9) ∨ toL l i = 10 := fun i h0 h1 => by
        obtain ⟨j, rfl⟩ := Int.eq_ofNat_of_zero_le h0
        have := HO.out.to (i := j) (by rw [HL.out]; omega)
        have := HO.out.c1
        omega
      have HFR := Lib.hid hfr'
      have HTO := Lib.hid hto'
      have hsl2 := hk.cell hsl hgm
      have hmp2 := hk.cell hmp hgm
      have bx2 := hk.cell bx hbn
      clear hfl hcl hm hfr' hto' hS1 hS2 bx hsl hmp
      by_cases hsd : sum = due
      · subst hsd
        have hT := flow_truth HFR.out HTO.out (fun i hi' => HRO.out.le i hi') HF.out.nn HF.out.pair HF.out.bal HD.out
        have hcan : canE l T C err [] = true := by
          unfold canE
          rw [HLO.out, HHI.out]
          exact canB_of_truth HO.out (by rw [HL.out]; exact hT)
        have HCAN := Lib.hid hcan
        have hbb : (sum == sum) = true := by simp
        obtain ⟨y0, y1, f0, f1⟩ := cut_cells m1
        have hcz := cut_zero m1
        have hbz := Lib.hid ((HB2.out.setCell (p := ⟨w.heap.size + 1, 0, none⟩) (by simp) (.slice none 0 0)).setCell (p := ⟨w.heap.size + 1, 1, none⟩) (by simp) (.slice none 0 0))
        have HCZ := Lib.hid hcz
        clear hT hcan m1 m0 hcz
        go_wp2_with fail
        generalize (w2.setCell ⟨w.heap.size + 1, 0, none⟩ (.slice none 0 0)).setCell ⟨w.heap.size + 1, 1, none⟩ (.slice none 0 0) = w5 at hbz HCZ ⊢
        obtain ⟨z0, z1, _, _⟩ := cut_cells HCZ.out
        refine bodyPost_ret (v := .tuple #[.agg #[.slice none 0 0, .slice none 0 0], .int .i64 7]) (by simp [results, Try.results64, go_sem, z0, z1]) rfl ?_
        exact ⟨hbz.out, none, none, 0, 0, [], [], 7, rfl, IntsAt.nil _, IntsAt.nil _, by simp, by simp, .inr (.inl ⟨HF0.out, HCAN.out, rfl, rfl, rfl⟩)⟩
      · have hbb : (sum == due) = false := by simpa using hsd
        have hreach := Lib.hid (reach_first g mb n Bp f w2 (by omega) HF.out.nn ⟨_, _, hsl2⟩ hmp2 HM.out bx2)
        unfold seen11 at hreach
        have HM0' := Lib.hid m0
        have HM1' := Lib.hid m1
        clear m0 m1 hsl2 hmp2
        go_wp2_with fail
        refine hreach.out.mono ?_
        rintro e w5 ⟨rfl, hb5, s, hs1, hs2, hs3, hs4⟩
        have hS12 : s 12 = false := by
          cases e : s 12 with
          | false => rfl
          | true => have := hs4 S HS1.out HCL.out 12 (by omega) (by omega) e; rw [HS2.out] at this; cases this
        have hden := cut_denies (m := fun v => s v == !s 10) (fun i h0 h1 => by have := HFR.out i h0 h1; omega) (fun i h0 h1 => by have := HTO.out i h0 h1; omega) HF.out.pair HF.out.bal hs2 hS12 hs3 (by rw [← HD.out]; have := HF.out.le; rw [HO11.out] at this; omega) (fun _ => rfl)
        have hm10 : (fun v => s v == !s 10) 10 = false := by cases e : s 10 <;> simp [e]
        have hcan : canE l T C err [] = false := by unfold canE; rw [HLO.out, HHI.out]; exact canB_of_denied HO.out hm10 (by rw [HL.out]; exact hden)
        have hprov : provesB l T C err (setL (fun v => s v == !s 10) 0 T.toNat) (setL (fun v => s v == !s 10) 5 C.toNat) = true := denies_proves HO.out hm10 (by rw [HL.out, HLO.out, HHI.out]; exact hden)
        have ht0 := HO.out.t0
        have ht1 := HO.out.t1
        have hc0 := HO.out.c0
        have hc1 := HO.out.c1
        obtain ⟨q, hq⟩ : ∃ q, s 10 = q := ⟨_, rfl⟩
        have cs10 := hs1.cell (i := 10) (by omega)
        rw [hq] at hprov
        rw [show ((10 : Nat) : Int) = 10 from rfl, hq] at cs10
        have HPROV := Lib.hid hprov
        have HCAN := Lib.hid hcan
        have HSEEN := Lib.hid hs1
        have l5 := hb5.size
        have n0 := (hb5.block w.heap.size (by omega)).trans HM0'.out
        have n1 := (hb5.block (w.heap.size + 1) (by omega)).trans HM1'.out
        have HN1 := Lib.hid n1
        have HN0 := Lib.hid n0
        have c1 : w5.cell? ⟨w.heap.size, 1, none⟩ = some (.int .i64 T) := by simp [World.cell?, n0]
        have HB5 := Lib.hid (HB2.out.trans (hb5.mono HB2.out.size))
        obtain ⟨t, rfl⟩ := Int.eq_ofNat_of_zero_le ht0
        obtain ⟨cc, rfl⟩ := Int.eq_ofNat_of_zero_le hc0
        simp only [Int.toNat_natCast] at HPROV
        obtain ⟨sb, hsb⟩ : ∃ sb, w2.heap.size = sb := ⟨_, rfl⟩
        have lsb : sb < w5.heap.size := hsb ▸ hs1.lt
        rw [hsb] at HSEEN cs10 ⊢
        have hwsb : w.heap.size + 1 < sb := by omega
        have lw5 : w.heap.size < w5.heap.size := by omega
        have lw5b : w.heap.size + 1 < w5.heap.size := by omega
        clear hden hm10 hcan hprov hq hs1 hs2 hs3 hs4 n0 n1 hreach hS12 bx2 hsb
        go_wp2_with fail
        have hW5 : Below w5.heap.size w5 (w5.alloc (.cells #[.slice none 0 0, .slice none 0 0] 37)) := (Below.refl _ _).alloc (Nat.le_refl _) _
        have hbc := Go.heap_alloc_new w5 (.cells #[.slice none 0 0, .slice none 0 0] 37)
        obtain ⟨i0, hi0, hz0, hz1, hz2⟩ := info_parts Try.info3
        go_loopw [44] (CRel1 (fun v => s v == !q) w5 t) (fun i _ => t - (intOf i).toNat)
        case atStart => exact ⟨0, by omega, rfl, .slice none 0 0, hbc, World.ownsRow_nil _ _ _ _, hW5⟩
        case round =>
          clear hW5 hbc
          obtain ⟨k, hk, rfl, vt, hbc, hown, hbe⟩ := hrel
          have HBE := Lib.hid hbe
          have HOWN := Lib.hid hown
          have HBC := Lib.hid hbc
          obtain ⟨x0, x1, y0, y1⟩ := cut_cells hbc
          have lr := hbe.size
          have lbc := (Array.getElem?_eq_some_iff.1 hbc).1
          clear hbe hown hbc cs10
          by_cases hlt : k < t
          · have hlt' : decide ((k : Int) < (t : Int)) = true := by simpa using hlt
            have csk := (HSEEN.out.of_block (HBE.out.block sb lsb)).cell (i := k) (by omega)
            obtain ⟨p, hp⟩ : ∃ p, s (k : Int) = p := ⟨_, rfl⟩
            rw [hp] at csk
            have hsu : setL (fun v => s v == !q) 0 (k + 1) = if (p == !q) then setL (fun v => s v == !q) 0 k ++ [(k : Int)] else setL (fun v => s v == !q) 0 k := by
              rw [setL_succ, Nat.zero_add, hp]
            have HSU := Lib.hid hsu
            have i1 : (0 : Int) ≤ (k : Int) := by omega
            have i2 : (k : Int) < 13 := by omega
            clear hp hsu
            cases hpq : (p == !q) with
            | false =>
              have HSU2 := Lib.hid (HSU.out.trans (if_neg (by rw [hpq]; simp)))
              go_wp2_with fail
              go_roundw
              case rel => exact ⟨k + 1, by omega, by go_num, vt, HBC.out, by rw [HSU2.out]; exact HOWN.out, HBE.out⟩
              case measure => simp [intOf]; omega
            | true =>
              have HSU2 := Lib.hid (HSU.out.trans (if_pos hpq))
              have hsl := setL_len (fun v => s v == !q) 0 k
              go_wp2_with (at_builtin; refine wpList_append_own _ rfl _ _ 25 rfl (w5.heap.size + 1) 3 i0 (.int .i64 0) 1 8 Try.underlying25 hi0 hz0 hz1 hz2 rfl (by decide) _ _ _ rfl (HOWN.out.alloc _) ⟨wr.heap.size, 0, none⟩ 1 1 [.int .i64 k] rfl rfl (World.news_of_block (cs := #[.int .i64 k]) (t := 3) (fr := (0, 0)) (Go.heap_alloc_new wr _)) (by simp [Value.oneCell']) (by unfold maxLen; omega) (by omega) (by simp; omega) ?_)
              intro v2 w1 hown1 hgrow hnil2
              clear hnil2
              obtain ⟨g2, cap2, hv2, hcap2⟩ := own_form hown1
              rw [hv2] at hown1 ⊢
              clear hv2 v2
              have hne : ∀ j, j < w5.heap.size + 1 → some j ≠ vt.ownBlock := fun j hj e => by have := HOWN.out.lt j e.symm; omega
              have hbc1 : w1.heap[w5.heap.size]? = some (.cells #[vt, .slice none 0 0] 37 (0, 0)) := (hgrow.block _ (by simp; omega) (hne _ (by omega))).trans ((Below.heap_alloc _ _ _ (by omega)).trans HBC.out)
              have hbe1 : Below w5.heap.size w5 w1 := (HBE.out.alloc lr _).trans ⟨hgrow.os, hgrow.tape, hgrow.output, hgrow.size, fun j hj => hgrow.block j (by simp; omega) (hne j (by omega))⟩
              have HB1x := Lib.hid hbe1
              obtain ⟨z0, z1, f0, f1⟩ := cut_cells hbc1
              have HC1 := Lib.hid hbc1
              have HO1 := Lib.hid hown1
              clear hbc1 hown1 hbe1 hgrow
              go_wp2_with fail
              go_roundw
              case rel =>
                refine ⟨k + 1, by omega, by go_num, .slice (some ⟨g2, 0, none⟩) ((setL (fun v => s v == !q) 0 k).length + 1) cap2, cut_set0 HC1.out, ?_, HB1x.out.setCell (by simp) _⟩
                rw [HSU2.out, List.map_append, List.length_append]
                refine HO1.out.kept (row := some w5.heap.size) ⟨rfl, rfl, rfl, by simp, fun j _ hj => Below.heap_setCell _ _ _ _ (fun e => hj (by rw [e]))⟩ ?_
                right; intro e; have := HO1.out.lt g2 rfl; have e' : g2 = w5.heap.size := by simpa [Value.ownBlock] using e
                omega
              case measure => simp [intOf]; omega
          · have hlt' : decide ((k : Int) < (t : Int)) = false := by simpa using hlt
            obtain rfl : k = t := by omega
            have hIT := IntsAt.of_own HOWN.out
            have n0r := (HBE.out.block w.heap.size (by omega)).trans HN0.out
            have c2r : wr.cell? ⟨w.heap.size, 2, none⟩ = some (.int .i64 cc) := by simp [World.cell?, n0r]
            have HIT := Lib.hid hIT
            obtain ⟨At, ct, hvt, _⟩ := id hIT
            have HVT := Lib.hid hvt
            clear hIT n0r hvt hlt
            go_wp2_with fail
            obtain ⟨W7, rfl⟩ : ∃ W7 : World, W7 = wr := ⟨_, rfl⟩
            have HS7 := Lib.hid (HSEEN.out.of_block (HBE.out.block sb lsb))
            have HN17 := Lib.hid ((HBE.out.block (w.heap.size + 1) (by omega)).trans HN1.out)
            have HB7 := Lib.hid (HB5.out.trans (HBE.out.mono HB5.out.size))
            have lsb7 : sb < W7.heap.size := by omega
            have hsbc : sb ≠ w5.heap.size := by omega
            clear x0 x1 y0 y1 c2r HBE HOWN
            go_loopw [61] (CRel2 (fun v => s v == !q) W7 w5.heap.size vt cc) (fun i _ => cc - (intOf i).toNat)
            case atStart => exact ⟨0, by omega, rfl, .slice none 0 0, HBC.out, World.ownsRow_nil _ _ _ _, MKeep.refl _ _⟩
            case round =>
              obtain ⟨k', hk', rfl, vc, hbc, hown, hbe⟩ := hrel
              have HBE := Lib.hid hbe
              have HOWN := Lib.hid hown
              have HBC2 := Lib.hid hbc
              obtain ⟨x0, x1, y0, y1⟩ := cut_cells hbc
              have lr2 := hbe.size
              have lbc2 := (Array.getElem?_eq_some_iff.1 hbc).1
              clear hbe hown hbc
              by_cases hlt : k' < cc
              · have hlt' : decide ((k' : Int) < (cc : Int)) = true := by simpa using hlt
                have csk := (HS7.out.of_block (HBE.out.block sb lsb7 hsbc)).cell (i := 5 + k') (by omega)
                obtain ⟨p, hp⟩ : ∃ p, s ((5 + k' : Nat) : Int) = p := ⟨_, rfl⟩
                rw [hp] at csk
                have hsu : setL (fun v => s v == !q) 5 (k' + 1) = if (p == !q) then setL (fun v => s v == !q) 5 k' ++ [(k' : Int)] else setL (fun v => s v == !q) 5 k' := by
                  rw [setL_succ, hp]
                have HSU := Lib.hid hsu
                have i1 : (0 : Int) ≤ 5 + (k' : Int) := by omega
                have i2 : 5 + (k' : Int) < 13 := by omega
                have i3 : (5 + (k' : Int)).toNat = 5 + k' := by omega
                clear hp hsu
                cases hpq : (p == !q) with
                | false =>
                  have HSU2 := Lib.hid (HSU.out.trans (if_neg (by rw [hpq]; simp)))
                  go_wp2_with fail
                  go_roundw
                  case rel => exact ⟨k' + 1, by omega, by go_num, vc, HBC2.out, by rw [HSU2.out]; exact HOWN.out, HBE.out⟩
                  case measure => simp [intOf]; omega
                | true =>
                  have HSU2 := Lib.hid (HSU.out.trans (if_pos hpq))
                  have hsl := setL_len (fun v => s v == !q) 5 k'
                  go_wp2_with (at_builtin; refine wpList_append_own _ rfl _ _ 25 rfl W7.heap.size 3 i0 (.int .i64 0) 1 8 Try.underlying25 hi0 hz0 hz1 hz2 rfl (by decide) _ _ _ rfl (HOWN.out.alloc _) ⟨wr.heap.size, 0, none⟩ 1 1 [.int .i64 k'] rfl rfl (World.news_of_block (cs := #[.int .i64 k']) (t := 3) (fr := (0, 0)) (Go.heap_alloc_new wr _)) (by simp [Value.oneCell']) (by unfold maxLen; omega) (by omega) (by simp; omega) ?_)
                  intro v2 w1 hown1 hgrow hnil2
                  clear hnil2
                  obtain ⟨g2, cap2, hv2, hcap2⟩ := own_form hown1
                  rw [hv2] at hown1 ⊢
                  clear hv2 v2
                  have hne : ∀ j, j < W7.heap.size → some j ≠ vc.ownBlock := fun j hj e => by have := HOWN.out.lt j e.symm; omega
                  have hbc1 : w1.heap[w5.heap.size]? = some (.cells #[vt, vc] 37 (0, 0)) := (hgrow.block _ (by simp; omega) (hne _ (by omega))).trans ((Below.heap_alloc _ _ _ (by omega)).trans HBC2.out)
                  have hbe1 : MKeep w5.heap.size W7 (w1.setCell ⟨w5.heap.size, 1, none⟩ (.slice (some ⟨g2, 0, none⟩) ((setL (fun v => s v == !q) 5 k').length + 1) cap2)) :=
                    ⟨hgrow.os.trans HBE.out.os, hgrow.tape.trans HBE.out.tape, hgrow.output.trans HBE.out.output, (by have := hgrow.size; simp at this ⊢; omega), fun j hj h1 => (Below.heap_setCell _ _ _ _ h1).trans ((hgrow.block j (by simp; omega) (hne j (by omega))).trans ((Below.heap_alloc _ _ _ (by omega)).trans (HBE.out.block j hj h1)))⟩
                  have HB1x := Lib.hid hbe1
                  obtain ⟨z0, z1, f0, f1⟩ := cut_cells hbc1
                  have HC1 := Lib.hid hbc1
                  have HO1 := Lib.hid hown1
                  clear hbc1 hown1 hbe1 hgrow
                  go_wp2_with fail
                  go_roundw
                  case rel =>
                    refine ⟨k' + 1, by omega, by go_num, .slice (some ⟨g2, 0, none⟩) ((setL (fun v => s v == !q) 5 k').length + 1) cap2, cut_set1 HC1.out, ?_, HB1x.out⟩
                    rw [HSU2.out, List.map_append, List.length_append]
                    refine HO1.out.kept (row := some w5.heap.size) ⟨rfl, rfl, rfl, by simp, fun j _ hj => Below.heap_setCell _ _ _ _ (fun e => hj (by rw [e]))⟩ ?_
                    right; intro e; have := HO1.out.lt g2 rfl; have e' : g2 = w5.heap.size := by simpa [Value.ownBlock] using e
                    omega
                  case measure => simp [intOf]; omega
              · have hlt' : decide ((k' : Int) < (cc : Int)) = false := by simpa using hlt
                obtain rfl : k' = cc := by omega
                have hIC := IntsAt.of_own HOWN.out
                obtain ⟨At, ct, rfl, _⟩ := id HIT.out
                obtain ⟨Ac, c2, rfl, _⟩ := id hIC
                have hIT2 := HIT.out.of_m HBE.out HBC.out
                have n1r := (HBE.out.block (w.heap.size + 1) (by omega) (by omega)).trans HN17.out
                obtain ⟨e0, e1, f0, f1⟩ := cut_cells n1r
                have hlr : w.heap.size + 1 < wr.heap.size := by omega
                have hsz := HB7.out.size
                have hB9 : Below w.heap.size w wr := HB7.out.trans (HBE.out.below (by omega) (by omega))
                have hfin : ∀ wz, wz = (wr.setCell ⟨w.heap.size + 1, 0, none⟩ (.slice At (setL (fun v => s v == !q) 0 k).length ct)).setCell ⟨w.heap.size + 1, 1, none⟩ (.slice Ac (setL (fun v => s v == !q) 5 k').length c2) → ProvePost l k k' err w (.returned (.tuple #[.agg #[.slice At (setL (fun v => s v == !q) 0 k).length ct, .slice Ac (setL (fun v => s v == !q) 5 k').length c2], .int .i64 0])) wz := by
                  rintro wz rfl
                  have ho : ∀ j, j ≠ w.heap.size + 1 → ((wr.setCell ⟨w.heap.size + 1, 0, none⟩ (.slice At (setL (fun v => s v == !q) 0 k).length ct)).setCell ⟨w.heap.size + 1, 1, none⟩ (.slice Ac (setL (fun v => s v == !q) 5 k').length c2)).heap[j]? = wr.heap[j]? := fun j hj => (Below.heap_setCell _ _ _ _ hj).trans (Below.heap_setCell _ _ _ _ hj)
                  have b1 := setL_len (fun v => s v == !q) 0 k
                  have b2 := setL_len (fun v => s v == !q) 5 k'
                  exact ⟨(hB9.setCell (by simp) _).setCell (by simp) _, At, Ac, ct, c2, _, _, 0, rfl, hIT2.of_others ho n1r, hIC.of_others ho n1r, by omega, by omega, .inr (.inr ⟨HF0.out, HCAN.out, HPROV.out, rfl⟩)⟩
                have HFIN := Lib.hid hfin
                have hct := cut_two (c := .slice At (setL (fun v => s v == !q) 0 k).length ct) (d := .slice Ac (setL (fun v => s v == !q) 5 k').length c2) n1r
                have HCT := Lib.hid hct
                clear hfin hIT2 hIC n1r hct hB9 hsz
                go_wp2_with fail
                obtain ⟨z0, z1, _, _⟩ := cut_cells HCT.out
                generalize (wr.setCell ⟨w.heap.size + 1, 0, none⟩ (.slice At (setL (fun v => s v == !q) 0 k).length ct)).setCell ⟨w.heap.size + 1, 1, none⟩ (.slice Ac (setL (fun v => s v == !q) 5 k').length c2) = w9 at z0 z1 HFIN ⊢
                refine bodyPost_ret (v := .tuple #[.agg #[.slice At (setL (fun v => s v == !q) 0 k).length ct, .slice Ac (setL (fun v => s v == !q) 5 k').length c2], .int .i64 0]) (by simp [results, Try.results64, go_sem, z0, z1]) rfl (HFIN.out _ rfl)
end Go.Proofs.Ytkloaeaepjoijaa

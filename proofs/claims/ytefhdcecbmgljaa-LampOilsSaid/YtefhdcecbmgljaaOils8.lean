/-
  LampOils: the walk.
-/
import Derived.Test.YtefhdcecbmgljaaOilC
import Derived.Test.YtefhdcecbmgljaaRefG
import Derived.Test.YtefhdcecbmgljaaRefN
set_option linter.all false
namespace Go.Proofs.Ytefhdcecbmgljaa
open Go.RowKit Go.WalkArith

/-- Six Booleans in a block. -/
def boolsA (f : Nat → Bool) : Array Value := #[.bool (f 0), .bool (f 1), .bool (f 2), .bool (f 3), .bool (f 4), .bool (f 5)]
def updB (f : Nat → Bool) (j : Nat) (v : Bool) : Nat → Bool := fun i => if i = j then v else f i
theorem boolsA_cell {w : World} {B t : Nat} {fr : Nat × Nat} {f : Nat → Bool} (h : w.heap[B]? = some (.cells (boolsA f) t fr)) {j : Nat} (hj : j < 6) : w.cell? ⟨B, j, none⟩ = some (.bool (f j)) := by
  have h6 : j = 0 ∨ j = 1 ∨ j = 2 ∨ j = 3 ∨ j = 4 ∨ j = 5 := by omega
  rcases h6 with rfl | rfl | rfl | rfl | rfl | rfl <;> simp [World.cell?, h, boolsA]
theorem boolsA_soft {w : World} {B t : Nat} {f : Nat → Bool} (h : w.heap[B]? = some (.cells (boolsA f) t (0, 0))) (j : Nat) : w.frozen? ⟨B, j, none⟩ = false := by simp [World.frozen?, h]
theorem boolsA_set {w : World} {B t : Nat} {fr : Nat × Nat} {f : Nat → Bool} (h : w.heap[B]? = some (.cells (boolsA f) t fr)) {j : Nat} (hj : j < 6) (v : Bool) : (w.setCell ⟨B, j, none⟩ (.bool v)).heap[B]? = some (.cells (boolsA (updB f j v)) t fr) := by
  obtain ⟨hlt, hg⟩ := Array.getElem?_eq_some_iff.1 h
  have h6 : j = 0 ∨ j = 1 ∨ j = 2 ∨ j = 3 ∨ j = 4 ∨ j = 5 := by omega
  rcases h6 with rfl | rfl | rfl | rfl | rfl | rfl <;> simp [World.setCell, hlt, Array.getElem_modify, hg, boolsA, updB]
theorem BoolsAt.at3 {W : World} {A : Option Addr} {n cap : Nat} {xs : List Bool} (h : BoolsAt W (.slice A n cap) xs) {k : Nat} (hk : k < xs.length) : ∃ b o, A = some ⟨b, o, none⟩ ∧ W.cell? ⟨b, o + k, none⟩ = some (.bool xs[k]) := by
  obtain ⟨A', cap', he, hc⟩ := h
  cases he
  obtain ⟨b, o, rfl, hd⟩ := hc.resolve_left (fun h => by rw [h] at hk; simp at hk)
  exact ⟨b, o, rfl, hd k hk⟩
theorem rplay_lit (s : St) (A : Option Addr) (cp : Nat) (Ac Ak : Option Addr) (cc ck : Nat) (c k : List Int) (t : Int) (Ab : Option Addr) (cb : Nat) (bs : List Int) (w : World) (hok : planL s c k = 0) (htb : truthB s t bs = true) (hA : NtsAt w A s.ns) (hc : IntsAt w (.slice Ac c.length cc) c) (hk : IntsAt w (.slice Ak k.length ck) k) (hv : IntsAt w (.slice Ab bs.length cb) bs) :
    Calls Try.prog 26 #[.agg #[.int .i64 s.cap, .int .i64 s.can, .int .i64 s.sl, .int .i64 s.sh, .slice A s.ns.length cp], .agg #[.slice Ac c.length cc, .slice Ak k.length ck], .agg #[.int .i64 t, .slice Ab bs.length cb]] w fun e w' => ∃ v1 v2 A3 c3, e = .returned (.tuple #[v1, v2, .slice A3 (litsL s (atL c) (atL k) (atL bs) t s.ns.length).length c3]) ∧ w'.ownsRow w.heap.size 4 1 (.slice A3 (litsL s (atL c) (atL k) (atL bs) t s.ns.length).length c3) (litsL s (atL c) (atL k) (atL bs) t s.ns.length).length ((litsL s (atL c) (atL k) (atL bs) t s.ns.length).map Value.bool) ∧ Below w.heap.size w w' :=
  (rplay_any s A cp Ac Ak cc ck c k t Ab cb bs w hok htb hA hc hk hv).mono fun e w' ⟨h1, v1, v2, v3, he, h4, h5, h6⟩ => by
    subst he
    have i3 := BoolsAt.of_own h6
    obtain ⟨A3, c3, rfl, j3⟩ := id i3
    exact ⟨v1, v2, A3, c3, rfl, h6, h1⟩
/-- The nights that have been dark among the first truths; those of one more truth, up to a night. -/
def canF (s : St) (c k : Nat → Int) (m : Nat) (i : Nat) : Bool := decide (i < s.ns.length) && nDark s c k m i
def canJ (s : St) (c k : Nat → Int) (m j : Nat) (i : Nat) : Bool := if i < j then canF s c k (m + 1) i else canF s c k m i
theorem canJ_step {s : St} {c k : Nat → Int} {m j : Nat} (hj : j < s.ns.length) : updB (canJ s c k m j) j (canF s c k m j || !nLit s c k m j) = canJ s c k m (j + 1) := by
  funext i
  unfold updB canJ
  by_cases e : i = j
  · subst e
    rw [if_pos rfl, if_pos (by omega)]
    unfold canF
    rw [nDark_succ]; simp [hj]
  · rw [if_neg e]
    by_cases e2 : i < j
    · rw [if_pos e2, if_pos (by omega)]
    · rw [if_neg e2, if_neg (by omega)]
theorem canJ_end {s : St} {c k : Nat → Int} {m : Nat} : canJ s c k m s.ns.length = canF s c k (m + 1) := by
  funext i
  unfold canJ
  split
  · rfl
  · rename_i h; unfold canF; simp [h]
theorem canJ_zero {s : St} {c k : Nat → Int} {m : Nat} : canJ s c k m 0 = canF s c k m := by funext i; unfold canJ; simp
def RDaRel (s : St) (c k : Nat → Int) (w : World) (Bs Bp Bc : Nat) (os op : Obj) (n : Value) (wr : World) : Prop :=
  ∃ m : Nat, m ≤ manyN s ∧ n = .int .i64 m ∧ wr.heap[Bs]? = some os ∧ wr.heap[Bp]? = some op ∧ wr.heap[Bc]? = some (.cells (boolsA (canF s c k m)) 143 (0, 0)) ∧ Below w.heap.size w wr
def RDaIn (s : St) (c k : Nat → Int) (m : Nat) (w0 : World) (Bc : Nat) (i : Value) (wr : World) : Prop :=
  ∃ j : Nat, j ≤ s.ns.length ∧ i = .int .i64 j ∧ wr.heap[Bc]? = some (.cells (boolsA (canJ s c k m j)) 143 (0, 0)) ∧ (∀ b, b ≠ Bc → b < w0.heap.size → wr.heap[b]? = w0.heap[b]?) ∧ w0.heap.size ≤ wr.heap.size ∧ wr.os = w0.os ∧ wr.tape = w0.tape ∧ wr.output = w0.output
def RDaOut (s : St) (c k : Nat → Int) (w0 : World) (v i : Value) (wr : World) : Prop :=
  ∃ j : Nat, j ≤ s.ns.length ∧ i = .int .i64 j ∧ wr.ownsRow w0.heap.size 3 1 v (darkTo s c k j).length ((darkTo s c k j).map (Value.int .i64)) ∧ Below w0.heap.size w0 wr

set_option maxRecDepth 100000 in
set_option maxHeartbeats 8000000 in
theorem rdark_any (s : St) (A : Option Addr) (cp : Nat) (Ac Ak : Option Addr) (cc ck : Nat) (c k : List Int) (w : World) (hok : planL s c k = 0) (hA : NtsAt w A s.ns) (hc : IntsAt w (.slice Ac c.length cc) c) (hk : IntsAt w (.slice Ak k.length ck) k) :
    Calls Try.prog 52 #[.agg #[.int .i64 s.cap, .int .i64 s.can, .int .i64 s.sl, .int .i64 s.sh, .slice A s.ns.length cp], .agg #[.slice Ac c.length cc, .slice Ak k.length ck]] w fun e w' => ∃ A1 c1, e = .returned (.slice A1 (darkL s (atL c) (atL k)).length c1) ∧ IntsAt w' (.slice A1 (darkL s (atL c) (atL k)).length c1) (darkL s (atL c) (atL k)) ∧ Below w.heap.size w w' := by
  have HA := Lib.hid hA
  have HC := Lib.hid hc
  have HK := Lib.hid hk
  have HP := Lib.hid hok
  obtain ⟨hs, -, -, hpl⟩ := planL_zero.1 hok
  have HO := Lib.hid hs
  have HPL := Lib.hid hpl
  have h6 := hs.len
  have hpos := hs.pos
  have hbig : manyN s ≤ 710395961 := manyTo_big hs (Nat.le_refl _)
  have HB1 := Lib.hid (show Below w.heap.size w (((w.alloc (.cells #[.int .i64 s.cap, .int .i64 s.can, .int .i64 s.sl, .int .i64 s.sh, .slice A s.ns.length cp] 26)).alloc (.cells #[.slice Ac c.length cc, .slice Ak k.length ck] 29)).alloc (.cells #[.bool false, .bool false, .bool false, .bool false, .bool false, .bool false] 143)) from (((Below.refl _ _).alloc (Nat.le_refl _) _).alloc (by simp) _).alloc (by simp; omega) _)
  have HN1 := Lib.hid (show (((w.alloc (.cells #[.int .i64 s.cap, .int .i64 s.can, .int .i64 s.sl, .int .i64 s.sh, .slice A s.ns.length cp] 26)).alloc (.cells #[.slice Ac c.length cc, .slice Ak k.length ck] 29)).alloc (.cells #[.bool false, .bool false, .bool false, .bool false, .bool false, .bool false] 143)).heap[w.heap.size]? = some (.cells #[.int .i64 s.cap, .int .i64 s.can, .int .i64 s.sl, .int .i64 s.sh, .slice A s.ns.length cp] 26 (0, 0)) from (Below.heap_alloc _ _ _ (by simp <;> omega)).trans ((Below.heap_alloc _ _ _ (by simp <;> omega)).trans (heap_new_at _ _ _ rfl)))
  have HP1 := Lib.hid (show (((w.alloc (.cells #[.int .i64 s.cap, .int .i64 s.can, .int .i64 s.sl, .int .i64 s.sh, .slice A s.ns.length cp] 26)).alloc (.cells #[.slice Ac c.length cc, .slice Ak k.length ck] 29)).alloc (.cells #[.bool false, .bool false, .bool false, .bool false, .bool false, .bool false] 143)).heap[w.heap.size + 1]? = some (.cells #[.slice Ac c.length cc, .slice Ak k.length ck] 29 (0, 0)) from (Below.heap_alloc _ _ _ (by simp <;> omega)).trans (heap_alloc2 _ _ _))
  have HC1 := Lib.hid (show (((w.alloc (.cells #[.int .i64 s.cap, .int .i64 s.can, .int .i64 s.sl, .int .i64 s.sh, .slice A s.ns.length cp] 26)).alloc (.cells #[.slice Ac c.length cc, .slice Ak k.length ck] 29)).alloc (.cells #[.bool false, .bool false, .bool false, .bool false, .bool false, .bool false] 143)).heap[w.heap.size + 1 + 1]? = some (.cells (boolsA (canF s (atL c) (atL k) 0)) 143 (0, 0)) from (heap_new_at _ _ _ (by simp)).trans (by simp [boolsA, canF, nDark]))
  clear hA hc hk hok hs hpl
  go_enter Try.func52, Try.ntmps52
  go_wp2_with fail
  generalize ((w.alloc (.cells #[.int .i64 s.cap, .int .i64 s.can, .int .i64 s.sl, .int .i64 s.sh, .slice A s.ns.length cp] 26)).alloc (.cells #[.slice Ac c.length cc, .slice Ak k.length ck] 29)).alloc (.cells #[.bool false, .bool false, .bool false, .bool false, .bool false, .bool false] 143) = w1 at HB1 HN1 HP1 HC1 ⊢
  obtain ⟨Bc, hBc⟩ : ∃ B, w.heap.size + 1 + 1 = B := ⟨_, rfl⟩
  obtain ⟨Bp, hBp⟩ : ∃ B, w.heap.size + 1 = B := ⟨_, rfl⟩
  obtain ⟨Bs, hBs⟩ : ∃ B, w.heap.size = B := ⟨_, rfl⟩
  rw [hBc] at HC1 ⊢
  rw [hBp] at HP1 ⊢
  rw [hBs] at HN1 ⊢
  have o1 : w.heap.size ≤ Bs := by omega
  have o2 : Bs < Bp := by omega
  have o3 : Bp < Bc := by omega
  clear hBc hBp hBs
  go_loopw [6] (RDaRel s (atL c) (atL k) w Bs Bp Bc (.cells #[.int .i64 s.cap, .int .i64 s.can, .int .i64 s.sl, .int .i64 s.sh, .slice A s.ns.length cp] 26 (0, 0)) (.cells #[.slice Ac c.length cc, .slice Ak k.length ck] 29 (0, 0))) (fun n _ => manyN s - (intOf n).toNat)
  case atStart => exact ⟨0, by omega, rfl, HN1.out, HP1.out, HC1.out, HB1.out⟩
  case round =>
    clear HB1 HN1 HP1 HC1
    obtain ⟨m, hm, rfl, hn0, hn1, hn2, hbe⟩ := hrel
    have HBE := Lib.hid hbe
    have HN0 := Lib.hid hn0
    have HN1 := Lib.hid hn1
    have HN2 := Lib.hid hn2
    obtain ⟨s0, s1, s2, s3, s4⟩ := cells5 hn0
    obtain ⟨p0, p1⟩ := cells2 hn1
    have hma := Lib.hid (many_any s A cp wr HO.out (HA.out.keep hbe (Nat.le_refl _)))
    clear hbe hn0 hn1 hn2
    go_wp2_with fail
    with_reducible refine hma.out.mono ?_
    rintro e w2 ⟨rfl, hb2⟩
    have HB2 := Lib.hid (HBE.out.trans (hb2.mono HBE.out.size))
    have hq0 := (hb2.block Bs (Array.getElem?_eq_some_iff.1 HN0.out).1).trans HN0.out
    have hq1 := (hb2.block Bp (Array.getElem?_eq_some_iff.1 HN1.out).1).trans HN1.out
    have HN02 := Lib.hid hq0
    have HN12 := Lib.hid hq1
    have HB2S := Lib.hid (show Bc < w2.heap.size from Nat.lt_of_lt_of_le (Array.getElem?_eq_some_iff.1 HN2.out).1 hb2.size)
    have HN22 := Lib.hid ((hb2.block Bc (Array.getElem?_eq_some_iff.1 HN2.out).1).trans HN2.out)
    clear s0 s1 s2 s3 s4 p0 p1 hma hb2
    obtain ⟨s0, s1, s2, s3, s4⟩ := cells5 hq0
    obtain ⟨p0, p1⟩ := cells2 hq1
    clear hq0 hq1 HBE HN0 HN1 HN2
    by_cases hlt : m < manyN s
    · have hlt' : decide ((m : Int) < (manyN s : Int)) = true := by simpa using hlt
      have htr := nthL_truth HO.out hlt
      go_wp2_with fail
      go_region_held3 (fun X => X.cell? ⟨Bs, 0, none⟩ = some (.int .i64 s.cap) ∧ X.cell? ⟨Bs, 1, none⟩ = some (.int .i64 s.can) ∧ X.cell? ⟨Bs, 2, none⟩ = some (.int .i64 s.sl) ∧ X.cell? ⟨Bs, 3, none⟩ = some (.int .i64 s.sh) ∧ X.cell? ⟨Bs, 4, none⟩ = some (.slice A s.ns.length cp) ∧ X.cell? ⟨Bp, 0, none⟩ = some (.slice Ac c.length cc) ∧ X.cell? ⟨Bp, 1, none⟩ = some (.slice Ak k.length ck))
        (first | go_keep | exact ⟨cell_later hb3 s0, cell_later hb3 s1, cell_later hb3 s2, cell_later hb3 s3, cell_later hb3 s4, cell_later hb3 p0, cell_later hb3 p1⟩ | exact ⟨cell_later hb4 (cell_later hb3 s0), cell_later hb4 (cell_later hb3 s1), cell_later hb4 (cell_later hb3 s2), cell_later hb4 (cell_later hb3 s3), cell_later hb4 (cell_later hb3 s4), cell_later hb4 (cell_later hb3 p0), cell_later hb4 (cell_later hb3 p1)⟩)
        (first | (go_at_call 93; refine (nth_any s A cp m w2.drew HO.out hlt (HA.out.keep HB2.out.drew (Nat.le_refl _))).mono ?_; rintro e w3 ⟨Ab, cb, rfl, hab, hb3⟩; have hB3 := HB2.out.drew.trans (hb3.mono HB2.out.drew.size)) | (go_at_call 26; refine (rplay_lit s A cp Ac Ak cc ck c k (nthT s m) Ab cb (nthL s m) w3 HP.out htr (HA.out.keep hB3 (Nat.le_refl _)) (HC.out.keep hB3 (Nat.le_refl _)) (HK.out.keep hB3 (Nat.le_refl _)) hab).mono ?_; rintro e w4 ⟨v1, v2, L3, lc3, rfl, hl3, hb4⟩))
      have hl3 := hl3.lower (base' := w2.heap.size) hb3.size
      have hb24 : Below w2.heap.size w2 w4 := ((Below.refl _ w2).drew.trans hb3).trans (hb4.mono hb3.size)
      have HB4 := Lib.hid (HB2.out.trans (hb24.mono HB2.out.size))
      have HN04 := Lib.hid ((hb24.block Bs (Array.getElem?_eq_some_iff.1 HN02.out).1).trans HN02.out)
      have HN14 := Lib.hid ((hb24.block Bp (Array.getElem?_eq_some_iff.1 HN12.out).1).trans HN12.out)
      have HN24 := Lib.hid ((hb24.block Bc (Array.getElem?_eq_some_iff.1 HN22.out).1).trans HN22.out)
      have hLL := litsL_len s (atL c) (atL k) (atL (nthL s m)) (nthT s m) s.ns.length
      have hLi : ∀ i (h : i < (litsL s (atL c) (atL k) (atL (nthL s m)) (nthT s m) s.ns.length).length), (litsL s (atL c) (atL k) (atL (nthL s m)) (nthT s m) s.ns.length)[i] = nLit s (atL c) (atL k) m i := fun i h => by simp [litsL, nLit, nOil]
      generalize litsL s (atL c) (atL k) (atL (nthL s m)) (nthT s m) s.ns.length = lits at hLL hLi hl3 ⊢
      have lBc := (Array.getElem?_eq_some_iff.1 HN24.out).1
      have HL3 := Lib.hid hl3
      have HLI := Lib.hid hLi
      have HLN := Lib.hid hLL
      have hl6 : lits.length ≤ 6 := by omega
      clear hb3 hb4 hB3 hab hb24 htr HN02 HN12 HN22 HB2 s0 s1 s2 s3 s4 p0 p1 hl3 hLi hLL
      go_wp2_with fail
      go_loopw [10] (RDaIn s (atL c) (atL k) m w4 Bc) (fun i _ => s.ns.length - (intOf i).toNat)
      case atStart => exact ⟨0, by omega, rfl, by rw [canJ_zero]; exact HN24.out, fun _ _ _ => rfl, Nat.le_refl _, rfl, rfl, rfl⟩
      case round =>
        rename_i wq
        obtain ⟨j, hj, rfl, hcn, hblk, hsz, hos, hta, hou⟩ := hrel
        have HCN := Lib.hid hcn
        have HBK := Lib.hid hblk
        have HXX := Lib.hid (And.intro hos (And.intro hta hou))
        clear hcn hblk hos hta hou
        by_cases hlj : j < s.ns.length
        · have hlj' : decide ((j : Int) < (lits.length : Int)) = true := by have := HLN.out; simp; omega
          have hjl : j < lits.length := by have := HLN.out; omega
          obtain ⟨gl, hL1, hgl2⟩ : ∃ gl, L3 = some ⟨gl, 0, none⟩ ∧ w2.heap.size ≤ gl := by
            rcases HL3.out.2 with ⟨_, h0⟩ | ⟨g', cap', cur, he, hge, _⟩
            · omega
            · simp only [Value.slice.injEq] at he
              exact ⟨g', he.1, hge⟩
          subst hL1
          have hneq : gl ≠ Bc := by have := HB2S.out; omega
          have hglt := (HL3.out.lt gl rfl).2
          have hd := (own_cell1 HL3.out).1 j (.bool (nLit s (atL c) (atL k) m j)) (by rw [List.getElem?_map, List.getElem?_eq_getElem hjl, HLI.out j hjl]; rfl)
          have d0 : wr.cell? ⟨gl, j, none⟩ = some (.bool (nLit s (atL c) (atL k) m j)) := by
            have := HBK.out gl hneq hglt
            simp only [World.cell?, this]; simpa [World.cell?] using hd
          have hj6 : j < 6 := by omega
          have c0 := boolsA_cell HCN.out hj6
          rw [show canJ s (atL c) (atL k) m j j = canF s (atL c) (atL k) m j by simp [canJ]] at c0
          have z0 := boolsA_soft HCN.out j
          have hset := boolsA_set HCN.out hj6 (canF s (atL c) (atL k) m j || !nLit s (atL c) (atL k) m j)
          rw [canJ_step hlj] at hset
          have i1 : (0 : Int) ≤ (j : Int) := by omega
          have i2 : (j : Int) < (lits.length : Int) := by omega
          have i3 : (j : Int) < 6 := by omega
          have hbk : ∀ v b', b' ≠ Bc → b' < w4.heap.size → (wr.setCell ⟨Bc, j, none⟩ v).heap[b']? = w4.heap[b']? := fun v b' h1 h2 => (Below.heap_setCell _ _ _ _ h1).trans (HBK.out b' h1 h2)
          have hsz8 : ∀ v, w4.heap.size ≤ (wr.setCell ⟨Bc, j, none⟩ v).heap.size := fun v => by simp [World.setCell]; exact hsz
          have hxx8 : ∀ v, (wr.setCell ⟨Bc, j, none⟩ v).os = w4.os ∧ (wr.setCell ⟨Bc, j, none⟩ v).tape = w4.tape ∧ (wr.setCell ⟨Bc, j, none⟩ v).output = w4.output := fun v => HXX.out
          have HK8 := Lib.hid hbk
          have HS8 := Lib.hid hsz8
          have HX8 := Lib.hid hxx8
          clear hd hbk hsz8 hxx8
          cases hcv : canF s (atL c) (atL k) m j with
          | true =>
            rw [hcv] at c0 hset
            rw [Bool.true_or] at hset
            have HSET := Lib.hid hset
            clear hcv hset
            go_wp2_with fail
            go_roundw
            case rel => exact ⟨j + 1, by omega, by go_num, HSET.out, HK8.out _, HS8.out _, HX8.out _⟩
            case measure => simp [intOf]; omega
          | false =>
            rw [hcv] at c0 hset
            rw [Bool.false_or] at hset
            obtain ⟨V, hV⟩ : ∃ V, nLit s (atL c) (atL k) m j = V := ⟨_, rfl⟩
            rw [hV] at d0 hset
            clear hcv hV
            cases V with
            | true =>
              have HSET := Lib.hid hset
              simp only [Bool.not_true] at HSET
              clear hset
              go_wp2_with fail
              go_roundw
              case rel => exact ⟨j + 1, by omega, by go_num, HSET.out, HK8.out _, HS8.out _, HX8.out _⟩
              case measure => simp [intOf]; omega
            | false =>
              have HSET := Lib.hid hset
              simp only [Bool.not_false] at HSET
              clear hset
              go_wp2_with fail
              go_roundw
              case rel => exact ⟨j + 1, by omega, by go_num, HSET.out, HK8.out _, HS8.out _, HX8.out _⟩
              case measure => simp [intOf]; omega
        · have hlj' : decide ((j : Int) < (lits.length : Int)) = false := by have := HLN.out; simp; omega
          obtain rfl : j = s.ns.length := by omega
          have hle : lits.length ≤ s.ns.length := by have := HLN.out; omega
          have hdn : decide (s.ns.length < lits.length) = false := by simp; omega
          have hc9 := HCN.out
          rw [canJ_end] at hc9
          have lBs := (Array.getElem?_eq_some_iff.1 HN04.out).1
          have lBp := (Array.getElem?_eq_some_iff.1 HN14.out).1
          have hs9 := (HBK.out Bs (by omega) lBs).trans HN04.out
          have hp9 := (HBK.out Bp (by omega) lBp).trans HN14.out
          have hbw : Below w.heap.size w wr := HB4.out.trans ⟨HXX.out.1, HXX.out.2.1, HXX.out.2.2, hsz, fun k' hk' => HBK.out k' (by omega) (by have := HB4.out.size; omega)⟩
          have HF9 := Lib.hid (And.intro hs9 (And.intro hp9 (And.intro hc9 hbw)))
          clear hs9 hp9 hc9 hbw
          go_wp2_with fail
          go_roundw
          case rel => exact ⟨m + 1, by omega, by go_num, HF9.out.1, HF9.out.2.1, HF9.out.2.2.1, HF9.out.2.2.2⟩
          case measure => simp [intOf]; omega
    · have hlt' : decide ((m : Int) < (manyN s : Int)) = false := by simpa using hlt
      obtain rfl : m = manyN s := by omega
      clear s0 s1 s2 s3 s4 p0 p1
      go_wp2_with fail
      go_loopw [11, 12] (RDaOut s (atL c) (atL k) w2) (fun _ i _ => s.ns.length - (intOf i).toNat)
      case atStart => exact ⟨0, by omega, rfl, World.ownsRow_nil _ _ _ _, Below.refl _ _⟩
      case round =>
        rename_i wq
        obtain ⟨j, hj, rfl, hown, hbe⟩ := hrel
        have hws := hbe.size
        have HOW := Lib.hid hown
        have HX := Lib.hid hbe
        obtain ⟨_, _, _, _, s4⟩ := cells5 ((hbe.block Bs (Array.getElem?_eq_some_iff.1 HN02.out).1).trans HN02.out)
        have hcn := (hbe.block Bc (Array.getElem?_eq_some_iff.1 HN22.out).1).trans HN22.out
        have hdl := darkTo_len s (atL c) (atL k) j
        clear hown hbe
        by_cases hlj : j < s.ns.length
        · have hlj' : decide ((j : Int) < (s.ns.length : Int)) = true := by simpa using hlj
          have c0 := boolsA_cell hcn (j := j) (by omega)
          have hcv : canF s (atL c) (atL k) (manyN s) j = !wLit s (atL c) (atL k) j := by
            unfold canF; rw [nDark_all HO.out HPL.out hlj]; simp [hlj]
          rw [hcv] at c0
          have hds := darkTo_succ s (atL c) (atL k) j
          have i1 : (0 : Int) ≤ (j : Int) := by omega
          have i2 : (j : Int) < (s.ns.length : Int) := by omega
          have i3 : (j : Int) < 6 := by omega
          clear hcv hcn
          cases hwl : wLit s (atL c) (atL k) j with
          | true =>
            rw [hwl] at c0 hds
            have HDS := Lib.hid hds
            simp only [Bool.not_true] at c0
            clear hwl hds
            go_wp2_with fail
            go_roundw
            case rel => exact ⟨j + 1, by omega, by go_num, by rw [HDS.out]; exact HOW.out, HX.out⟩
            case measure => simp [intOf]; omega
          | false =>
            rw [hwl] at c0 hds
            have HDS := Lib.hid hds
            simp only [Bool.not_false] at c0
            clear hwl hds
            go_wp2_with (at_builtin; refine wpList_app_int rfl _ _ rfl w2.heap.size u11 (darkTo s (atL c) (atL k) j) (j : Int) wr.heap.size rfl (HOW.out.alloc _) rfl (Go.heap_alloc_new wr _) (by omega) (by simp; omega) _ rfl ?_)
            intro g cap W6 hown6 hgrow hg6 hlt6
            have hx6 : Below w2.heap.size wr W6 := ((Below.refl _ wr).alloc (by omega) _).trans (below_of_grown hgrow (HOW.out.alloc _) (Nat.le_refl _) (by simp; omega))
            have HB6 := Lib.hid (HX.out.trans (hx6.mono (Nat.le_refl _)))
            have HOO6 := Lib.hid (show W6.ownsRow w2.heap.size 3 1 (.slice (some ⟨g, 0, none⟩) ((darkTo s (atL c) (atL k) j).length + 1) cap) (darkTo s (atL c) (atL k) (j + 1)).length ((darkTo s (atL c) (atL k) (j + 1)).map (Value.int .i64)) by rw [HDS.out]; simpa using hown6)
            clear hown6 hgrow hg6 hlt6 hx6
            go_wp2_with fail
            go_roundw
            case rel => exact ⟨j + 1, by omega, by go_num, HOO6.out, HB6.out⟩
            case measure => simp [intOf]; omega
        · have hlj' : decide ((j : Int) < (s.ns.length : Int)) = false := by simpa using hlj
          obtain rfl : j = s.ns.length := by omega
          have hI : IntsAt wr u11 (darkL s (atL c) (atL k)) := IntsAt.of_own HOW.out
          obtain ⟨A1, c1, rfl, _⟩ := id hI
          have HI := Lib.hid hI
          clear hI hcn
          go_wp2_with fail
          go_ret
          exact ⟨A1, c1, rfl, HI.out, HB2.out.trans (HX.out.mono HB2.out.size)⟩

theorem run_int_eq (d : Nat) (a : Int) (w : World) : (Op.equalIn (d + 1) 3 (.int .i64 a) (.int .i64 a)).run Try.prog w = .ok true w := by
  simp [Op.equalIn, run_underlying Try.underlying3]
theorem rng_fields : (Try.prog.fieldsOf 36).toList = [(Try.prog.fieldsOf 36)[0]!, (Try.prog.fieldsOf 36)[1]!] := by kernel_rfl
theorem eqF (d : Nat) (lo hi : Int) (w : World) : (Op.eqFields (d + 1) #[.int .i64 lo, .int .i64 hi] #[.int .i64 lo, .int .i64 hi] (Try.prog.fieldsOf 36).toList).run Try.prog w = .ok true w := by
  rw [rng_fields]
  have h1 : ((Try.prog.fieldsOf 36)[0]!.name ≠ "_") = True := by simp only [ne_eq, eq_iff_iff, iff_true]; exact of_decide_eq_true (by kernel_rfl)
  have h2 : ((Try.prog.fieldsOf 36)[1]!.name ≠ "_") = True := by simp only [ne_eq, eq_iff_iff, iff_true]; exact of_decide_eq_true (by kernel_rfl)
  have t1 : (Try.prog.fieldsOf 36)[0]!.type = 3 := by kernel_rfl
  have t2 : (Try.prog.fieldsOf 36)[1]!.type = 3 := by kernel_rfl
  have o1 : (Try.prog.fieldsOf 36)[0]!.offset = 0 := by kernel_rfl
  have o2 : (Try.prog.fieldsOf 36)[1]!.offset = 1 := by kernel_rfl
  have p1 : ∀ W, (part 3 #[.int .i64 lo, .int .i64 hi] 0).run Try.prog W = .ok (.int .i64 lo) W := fun W => by simp [part, run_underlying Try.underlying3]
  have p2 : ∀ W, (part 3 #[.int .i64 lo, .int .i64 hi] 1).run Try.prog W = .ok (.int .i64 hi) W := fun W => by simp [part, run_underlying Try.underlying3]
  simp only [Op.eqFields, h1, h2, t1, t2, o1, o2, if_true, Sem.run_bind, p1, p2, Result.andThen_ok, run_int_eq, Bool.not_true, Bool.false_eq_true, if_false, Sem.run_pure]
theorem run_rng_eq (lo hi : Int) (w : World) : (Op.equalIn 10000 36 (.agg #[.int .i64 lo, .int .i64 hi]) (.agg #[.int .i64 lo, .int .i64 hi])).run Try.prog w = .ok true w := by
  rw [run_equalIn_struct w 9999 36 _ _ (by kernel_rfl) (by kernel_rfl)]
  exact eqF 9998 lo hi w
/-- Dark and ProvePlan go together. -/
theorem prove_dark {s : St} {c k : List Int} (h : planL s c k = 0) : provePlanB s c k = decide ((darkL s (atL c) (atL k)).length = 0) := by
  unfold provePlanB
  rw [Bool.eq_iff_iff]
  simp only [Bool.and_eq_true, decide_eq_true_eq]
  rw [← dark_nil, List.length_eq_zero_iff]
  exact ⟨fun h2 => h2.2, fun h2 => ⟨h, h2⟩⟩
theorem prove_no {s : St} {c k : List Int} (h : planL s c k ≠ 0) : provePlanB s c k = false := by unfold provePlanB; simp [h]
theorem dipped_plan {s : St} {c k : List Int} {dips : List Dp} (h : planL s c k ≠ 0) : dippedL s c k dips = planL s c k := by unfold dippedL; rw [if_pos h]
def OLRel (n : Nat) (w0 : World) (i : Value) (wr : World) : Prop := ∃ k : Nat, k ≤ n ∧ i = .int .i64 k ∧ Below w0.heap.size w0 wr
/-- The reference's Oil with all dips, by cases. -/
theorem roil_zero (s : St) (A : Option Addr) (cp : Nat) (Ac Ak : Option Addr) (cc ck : Nat) (c k : List Int) (Ad : Option Addr) (cd : Nat) (dips : List Dp) (w : World) (hok : planL s c k = 0) (hdv : ∀ d ∈ dips, dipB s d = true) (hdl : dips.length ≤ 16) (hA : NtsAt w A s.ns) (hc : IntsAt w (.slice Ac c.length cc) c) (hk : IntsAt w (.slice Ak k.length ck) k) (hd : DpsAt w Ad dips) :
    Calls Try.prog 53 #[.agg #[.int .i64 s.cap, .int .i64 s.can, .int .i64 s.sl, .int .i64 s.sh, .slice A s.ns.length cp], .agg #[.slice Ac c.length cc, .slice Ak k.length ck], .slice Ad dips.length cd, .int .i64 0] w fun e w' => Below w.heap.size w w' ∧ ((¬ Cons s (atL c) (atL k) dips ∧ e = .returned (.tuple #[.slice none 0 0, .bool false])) ∨ (Cons s (atL c) (atL k) dips ∧ ∃ A1 c1 L H, e = .returned (.tuple #[.slice A1 s.ns.length c1, .bool true]) ∧ IsRng s (atL c) (atL k) dips L H ∧ RngsAt w' (.slice A1 s.ns.length c1) s.ns.length L H)) :=
  (roil_any s A cp Ac Ak cc ck c k Ad cd dips 0 w hok (by omega) hdv hdl hA hc hk hd).mono fun e w' ⟨h1, v, h2, h3⟩ => by
    obtain ⟨hs, _, _, hp⟩ := planL_zero.1 hok
    have hz := keptL_zero dips
    refine ⟨h1, ?_⟩
    rcases h2 with ⟨hv, hno⟩ | ⟨g, cap, L, H, hv, hr, ho⟩
    · rcases h3 with ⟨_, he⟩ | ⟨hne, _⟩
      · refine .inl ⟨fun hc => ?_, by rw [he, hv]⟩
        exact nAg_none hs hdv hdl hno (by rw [hz]; exact hc)
      · exact absurd hv hne
    · rcases h3 with ⟨hv2, _⟩ | ⟨_, he⟩
      · rw [hv] at hv2; simp at hv2
      · have hrg := rgTo_rng hs hdv hdl hr
        rw [hz] at hrg
        obtain ⟨t, b, q1, q2, _⟩ := hrg.lo 0 hs.pos
        rw [hv] at ho he
        exact .inr ⟨⟨t, b, q1, q2⟩, _, _, L, H, he, hrg, RngsAt.of_own ho⟩

set_option maxRecDepth 100000 in
set_option maxHeartbeats 8000000 in
theorem oils_walk (s : St) (A : Option Addr) (cp : Nat) (Ac Ak : Option Addr) (cc ck : Nat) (c k : List Int) (Ad : Option Addr) (cd : Nat) (dips : List Dp) (w : World) (hA : NtsAt w A s.ns) (hc : IntsAt w (.slice Ac c.length cc) c) (hk : IntsAt w (.slice Ak k.length ck) k) (hd : DpsAt w Ad dips) (n1 : NilOk Ac cc) (n2 : NilOk Ak ck) :
    Calls Try.prog 12 #[.agg #[.int .i64 s.cap, .int .i64 s.can, .int .i64 s.sl, .int .i64 s.sh, .slice A s.ns.length cp], .agg #[.slice Ac c.length cc, .slice Ak k.length ck], .slice Ad dips.length cd] w fun e w' => e = .returned (.bool true) ∧ Below w.heap.size w w' := by
  have HA := Lib.hid hA
  have HC := Lib.hid hc
  have HK := Lib.hid hk
  have HD := Lib.hid hd
  clear hA hc hk hd
  have hB0 : Below w.heap.size w ((w.alloc (.cells #[.int .i64 s.cap, .int .i64 s.can, .int .i64 s.sl, .int .i64 s.sh, .slice A s.ns.length cp] 26)).alloc (.cells #[.slice Ac c.length cc, .slice Ak k.length ck] 29)) := ((Below.refl _ _).alloc (Nat.le_refl _) _).alloc (by simp) _
  have hn0 : ((w.alloc (.cells #[.int .i64 s.cap, .int .i64 s.can, .int .i64 s.sl, .int .i64 s.sh, .slice A s.ns.length cp] 26)).alloc (.cells #[.slice Ac c.length cc, .slice Ak k.length ck] 29)).heap[w.heap.size]? = some (.cells #[.int .i64 s.cap, .int .i64 s.can, .int .i64 s.sl, .int .i64 s.sh, .slice A s.ns.length cp] 26 (0, 0)) := (Below.heap_alloc _ _ _ (by simp <;> omega)).trans (heap_new_at _ _ _ rfl)
  have hn1 : ((w.alloc (.cells #[.int .i64 s.cap, .int .i64 s.can, .int .i64 s.sl, .int .i64 s.sh, .slice A s.ns.length cp] 26)).alloc (.cells #[.slice Ac c.length cc, .slice Ak k.length ck] 29)).heap[w.heap.size + 1]? = some (.cells #[.slice Ac c.length cc, .slice Ak k.length ck] 29 (0, 0)) := heap_new_at _ _ _ (by simp)
  have HB1 := Lib.hid hB0
  have NBs1 := Lib.hid hn0
  have NBp1 := Lib.hid hn1
  clear hB0 hn0 hn1
  go_enter Try.func12, Try.ntmps12
  go_wp2_with fail
  generalize ((w.alloc (.cells #[.int .i64 s.cap, .int .i64 s.can, .int .i64 s.sl, .int .i64 s.sh, .slice A s.ns.length cp] 26)).alloc (.cells #[.slice Ac c.length cc, .slice Ak k.length ck] 29)) = w1 at HB1 NBs1 NBp1 ⊢
  obtain ⟨Bp, hBp⟩ : ∃ Bp, w.heap.size + 1 = Bp := ⟨_, rfl⟩
  obtain ⟨Bs, hBs⟩ : ∃ Bs, w.heap.size = Bs := ⟨_, rfl⟩
  have oBp : w.heap.size ≤ Bp := by omega
  have oBsBp : Bs < Bp := by omega
  have oBs : w.heap.size ≤ Bs := by omega
  rw [hBp] at NBp1 ⊢
  rw [hBs] at NBs1 ⊢
  clear hBs hBp
  obtain ⟨cBs0_1, cBs1_1, cBs2_1, cBs3_1, cBs4_1⟩ := cells5 NBs1.out
  obtain ⟨cBp0_1, cBp1_1⟩ := cells2 NBp1.out
  have FD1 := Lib.hid (HD.out.keep HB1.out (Nat.le_refl _))
  have hth := Lib.hid (thin_any A Ac Ak s.ns.length cp c.length cc k.length ck s.cap s.can s.sl s.sh w1)
  by_cases hT : s.ns.length ≤ 9 ∧ c.length ≤ 9 ∧ k.length ≤ 9
  rotate_left
  · rw [show (decide (s.ns.length ≤ 9) && decide (c.length ≤ 9) && decide (k.length ≤ 9)) = false from by simp; omega] at hth
    go_wp2_with fail
    refine (hth.out).mono ?_
    rintro e w2 ⟨rfl, hb⟩
    have HB2 := Lib.hid ((HB1.out).trans (hb.mono (HB1.out).size))
    have NBs2 := Lib.hid ((hb.block Bs (Array.getElem?_eq_some_iff.1 NBs1.out).1).trans NBs1.out)
    have NBp2 := Lib.hid ((hb.block Bp (Array.getElem?_eq_some_iff.1 NBp1.out).1).trans NBp1.out)
    have FD2 := Lib.hid ((FD1.out).keep hb (Nat.le_refl _))
    clear HB1 NBs1 NBp1 cBs0_1 cBs1_1 cBs2_1 cBs3_1 cBs4_1 cBp0_1 cBp1_1 FD1 hb hth
    obtain ⟨cBs0_2, cBs1_2, cBs2_2, cBs3_2, cBs4_2⟩ := cells5 NBs2.out
    obtain ⟨cBp0_2, cBp1_2⟩ := cells2 NBp2.out
    go_wp2_with fail
    refine (awake_any _).mono ?_
    rintro e w3 ⟨rfl, hb⟩
    have HB3 := Lib.hid ((HB2.out).trans (hb.mono (HB2.out).size))
    have NBs3 := Lib.hid ((hb.block Bs (Array.getElem?_eq_some_iff.1 NBs2.out).1).trans NBs2.out)
    have NBp3 := Lib.hid ((hb.block Bp (Array.getElem?_eq_some_iff.1 NBp2.out).1).trans NBp2.out)
    have FD3 := Lib.hid ((FD2.out).keep hb (Nat.le_refl _))
    clear HB2 NBs2 NBp2 cBs0_2 cBs1_2 cBs2_2 cBs3_2 cBs4_2 cBp0_2 cBp1_2 FD2 hb 
    obtain ⟨cBs0_3, cBs1_3, cBs2_3, cBs3_3, cBs4_3⟩ := cells5 NBs3.out
    obtain ⟨cBp0_3, cBp1_3⟩ := cells2 NBp3.out
    go_wp2_with fail
    go_ret
    exact ⟨rfl, HB3.out⟩
  · rw [show (decide (s.ns.length ≤ 9) && decide (c.length ≤ 9) && decide (k.length ≤ 9)) = true from by simp; omega] at hth
    go_wp2_with fail
    refine (hth.out).mono ?_
    rintro e w2 ⟨rfl, hb⟩
    have HB2 := Lib.hid ((HB1.out).trans (hb.mono (HB1.out).size))
    have NBs2 := Lib.hid ((hb.block Bs (Array.getElem?_eq_some_iff.1 NBs1.out).1).trans NBs1.out)
    have NBp2 := Lib.hid ((hb.block Bp (Array.getElem?_eq_some_iff.1 NBp1.out).1).trans NBp1.out)
    have FD2 := Lib.hid ((FD1.out).keep hb (Nat.le_refl _))
    clear HB1 NBs1 NBp1 cBs0_1 cBs1_1 cBs2_1 cBs3_1 cBs4_1 cBp0_1 cBp1_1 FD1 hb hth
    obtain ⟨cBs0_2, cBs1_2, cBs2_2, cBs3_2, cBs4_2⟩ := cells5 NBs2.out
    obtain ⟨cBp0_2, cBp1_2⟩ := cells2 NBp2.out
    obtain ⟨hn9, hc9, hk9⟩ := hT
    by_cases hd9 : dips.length ≤ 9
    rotate_left
    · have h1 : decide ((dips.length : Int) > 9) = true := by simp; omega
      have h2 : decide (9 < (dips.length : Int)) = true := by simp; omega
      go_wp2_with fail
      refine (awake_any _).mono ?_
      rintro e w3 ⟨rfl, hb⟩
      have HB3 := Lib.hid ((HB2.out).trans (hb.mono (HB2.out).size))
      have NBs3 := Lib.hid ((hb.block Bs (Array.getElem?_eq_some_iff.1 NBs2.out).1).trans NBs2.out)
      have NBp3 := Lib.hid ((hb.block Bp (Array.getElem?_eq_some_iff.1 NBp2.out).1).trans NBp2.out)
      have FD3 := Lib.hid ((FD2.out).keep hb (Nat.le_refl _))
      clear HB2 NBs2 NBp2 cBs0_2 cBs1_2 cBs2_2 cBs3_2 cBs4_2 cBp0_2 cBp1_2 FD2 hb 
      obtain ⟨cBs0_3, cBs1_3, cBs2_3, cBs3_3, cBs4_3⟩ := cells5 NBs3.out
      obtain ⟨cBp0_3, cBp1_3⟩ := cells2 NBp3.out
      go_wp2_with fail
      go_ret
      exact ⟨rfl, HB3.out⟩
    · have h1 : decide ((dips.length : Int) > 9) = false := by simp; omega
      have h2 : decide (9 < (dips.length : Int)) = false := by simp; omega
      have n9 : s.ns.length ≤ 1000000 := by omega
      have c9 : c.length ≤ 1000000 := by omega
      have k9 : k.length ≤ 1000000 := by omega
      have d9 : dips.length ≤ 1000000 := by omega
      have hfw := Lib.hid (few_any s A cp 4000 w2 n9 (HA.out.keep HB2.out (Nat.le_refl _)))
      cases hf : fewB s 4000 with
      | false =>
        rw [hf] at hfw
        clear hf
        go_wp2_with fail
        refine (hfw.out).mono ?_
        rintro e w3 ⟨rfl, hb⟩
        have HB3 := Lib.hid ((HB2.out).trans (hb.mono (HB2.out).size))
        have NBs3 := Lib.hid ((hb.block Bs (Array.getElem?_eq_some_iff.1 NBs2.out).1).trans NBs2.out)
        have NBp3 := Lib.hid ((hb.block Bp (Array.getElem?_eq_some_iff.1 NBp2.out).1).trans NBp2.out)
        have FD3 := Lib.hid ((FD2.out).keep hb (Nat.le_refl _))
        clear HB2 NBs2 NBp2 cBs0_2 cBs1_2 cBs2_2 cBs3_2 cBs4_2 cBp0_2 cBp1_2 FD2 hb hfw
        obtain ⟨cBs0_3, cBs1_3, cBs2_3, cBs3_3, cBs4_3⟩ := cells5 NBs3.out
        obtain ⟨cBp0_3, cBp1_3⟩ := cells2 NBp3.out
        go_wp2_with fail
        refine (awake_any _).mono ?_
        rintro e w4 ⟨rfl, hb⟩
        have HB4 := Lib.hid ((HB3.out).trans (hb.mono (HB3.out).size))
        have NBs4 := Lib.hid ((hb.block Bs (Array.getElem?_eq_some_iff.1 NBs3.out).1).trans NBs3.out)
        have NBp4 := Lib.hid ((hb.block Bp (Array.getElem?_eq_some_iff.1 NBp3.out).1).trans NBp3.out)
        have FD4 := Lib.hid ((FD3.out).keep hb (Nat.le_refl _))
        clear HB3 NBs3 NBp3 cBs0_3 cBs1_3 cBs2_3 cBs3_3 cBs4_3 cBp0_3 cBp1_3 FD3 hb 
        obtain ⟨cBs0_4, cBs1_4, cBs2_4, cBs3_4, cBs4_4⟩ := cells5 NBs4.out
        obtain ⟨cBp0_4, cBp1_4⟩ := cells2 NBp4.out
        go_wp2_with fail
        go_ret
        exact ⟨rfl, HB4.out⟩
      | true =>
        rw [hf] at hfw
        clear hf
        go_wp2_with fail
        refine (hfw.out).mono ?_
        rintro e w3 ⟨rfl, hb⟩
        have HB3 := Lib.hid ((HB2.out).trans (hb.mono (HB2.out).size))
        have NBs3 := Lib.hid ((hb.block Bs (Array.getElem?_eq_some_iff.1 NBs2.out).1).trans NBs2.out)
        have NBp3 := Lib.hid ((hb.block Bp (Array.getElem?_eq_some_iff.1 NBp2.out).1).trans NBp2.out)
        have FD3 := Lib.hid ((FD2.out).keep hb (Nat.le_refl _))
        clear HB2 NBs2 NBp2 cBs0_2 cBs1_2 cBs2_2 cBs3_2 cBs4_2 cBp0_2 cBp1_2 FD2 hb hfw
        obtain ⟨cBs0_3, cBs1_3, cBs2_3, cBs3_3, cBs4_3⟩ := cells5 NBs3.out
        obtain ⟨cBp0_3, cBp1_3⟩ := cells2 NBp3.out
        have hld := fun W x1 x2 x3 x4 => ldipped_any s A cp Ac Ak cc ck c k Ad cd dips W n9 c9 k9 d9 x1 x2 x3 x4
        have hpl := fun W x1 x2 x3 => planned_any s A cp Ac Ak cc ck c k W n9 c9 k9 x1 x2 x3
        have hpp := fun A2 cp2 Ac2 Ak2 cc2 ck2 W x1 x2 x3 => provePlan_any s A2 cp2 Ac2 Ak2 cc2 ck2 c k W n9 c9 k9 x1 x2 x3
        by_cases hp0 : planL s c k = 0
        rotate_left
        · have hq := dipped_plan (dips := dips) hp0
          have hol := fun A2 cp2 Ac2 Ak2 cc2 ck2 Ax cx W x1 x2 x3 x4 => oil_no s A2 cp2 Ac2 Ak2 cc2 ck2 c k Ax cx dips W x1 x2 x3 x4 n9 c9 k9 d9 (by rw [hq]; exact hp0)
          have hdk := fun A2 cp2 Ac2 Ak2 cc2 ck2 W x1 x2 x3 => dark_no s A2 cp2 Ac2 Ak2 cc2 ck2 c k W x1 x2 x3 n9 c9 k9 hp0
          rw [prove_no hp0] at hpp
          rw [hq] at hol hld
          obtain ⟨Q, hQ⟩ : ∃ Q, planL s c k = Q := ⟨_, rfl⟩
          rw [hQ] at hol hdk hld hpl hp0
          have HOL := Lib.hid hol
          have HDK := Lib.hid hdk
          have HLD := Lib.hid hld
          have HPL2 := Lib.hid hpl
          have HPP := Lib.hid hpp
          have hq1 : (Q == 0) = false := by simpa using hp0
          have hq2 : (Q != 0) = true := by simpa using hp0
          have hq3 : (Q != Q) = false := by simp
          clear hq hol hdk hld hpl hpp hQ hp0
          go_wp2_with fail
          go_region_held3 (fun X => X.cell? ⟨Bs, 0, none⟩ = some (.int .i64 s.cap) ∧ X.cell? ⟨Bs, 1, none⟩ = some (.int .i64 s.can) ∧ X.cell? ⟨Bs, 2, none⟩ = some (.int .i64 s.sl) ∧ X.cell? ⟨Bs, 3, none⟩ = some (.int .i64 s.sh) ∧ X.cell? ⟨Bs, 4, none⟩ = some (.slice A s.ns.length cp) ∧ X.cell? ⟨Bp, 0, none⟩ = some (.slice Ac c.length cc) ∧ X.cell? ⟨Bp, 1, none⟩ = some (.slice Ak k.length ck))
            (first | go_keep | exact ⟨(cell_later hb0 cBs0_3), (cell_later hb0 cBs1_3), (cell_later hb0 cBs2_3), (cell_later hb0 cBs3_3), (cell_later hb0 cBs4_3), (cell_later hb0 cBp0_3), (cell_later hb0 cBp1_3)⟩ | exact ⟨(cell_later hb1 (cell_later hb0 cBs0_3)), (cell_later hb1 (cell_later hb0 cBs1_3)), (cell_later hb1 (cell_later hb0 cBs2_3)), (cell_later hb1 (cell_later hb0 cBs3_3)), (cell_later hb1 (cell_later hb0 cBs4_3)), (cell_later hb1 (cell_later hb0 cBp0_3)), (cell_later hb1 (cell_later hb0 cBp1_3))⟩ | exact ⟨(cell_later hb2 (cell_later hb1 (cell_later hb0 cBs0_3))), (cell_later hb2 (cell_later hb1 (cell_later hb0 cBs1_3))), (cell_later hb2 (cell_later hb1 (cell_later hb0 cBs2_3))), (cell_later hb2 (cell_later hb1 (cell_later hb0 cBs3_3))), (cell_later hb2 (cell_later hb1 (cell_later hb0 cBs4_3))), (cell_later hb2 (cell_later hb1 (cell_later hb0 cBp0_3))), (cell_later hb2 (cell_later hb1 (cell_later hb0 cBp1_3)))⟩ | exact ⟨(cell_later hb3 (cell_later hb2 (cell_later hb1 (cell_later hb0 cBs0_3)))), (cell_later hb3 (cell_later hb2 (cell_later hb1 (cell_later hb0 cBs1_3)))), (cell_later hb3 (cell_later hb2 (cell_later hb1 (cell_later hb0 cBs2_3)))), (cell_later hb3 (cell_later hb2 (cell_later hb1 (cell_later hb0 cBs3_3)))), (cell_later hb3 (cell_later hb2 (cell_later hb1 (cell_later hb0 cBs4_3)))), (cell_later hb3 (cell_later hb2 (cell_later hb1 (cell_later hb0 cBp0_3)))), (cell_later hb3 (cell_later hb2 (cell_later hb1 (cell_later hb0 cBp1_3))))⟩)
            (first | (go_at_call 19; refine (store_conv s A cp w3.drew (HA.out.keep HB3.out.drew (Nat.le_refl _)) n9).mono ?_; rintro e w3_0 ⟨A2, cp2, rfl, hs2, hb0⟩; have hB0 := HB3.out.drew.trans (hb0.mono HB3.out.drew.size); have hf1 := (FD3.out.drew).keep hb0 (Nat.le_refl _)) | (go_at_call 21; refine (plan_conv Ac Ak cc ck c k w3_0 n1 n2 (HC.out.keep hB0 (Nat.le_refl _)) (HK.out.keep hB0 (Nat.le_refl _)) c9 k9).mono ?_; rintro e w3_1 ⟨Ac2, Ak2, cc2, ck2, rfl, hc2, hk2, hb1⟩; have hB1 := hB0.trans (hb1.mono hB0.size); have hs3 := hs2.keep hb1 (Nat.le_refl _); have hf2 := hf1.keep hb1 (Nat.le_refl _)) | (go_at_call 31; refine (dips_conv Ad cd dips w3_1 hf2 d9).mono ?_; rintro e w3_2 ⟨Ax, cx, rfl, hdx, hb2⟩; have hB2 := hB1.trans (hb2.mono hB1.size); have hs4 := hs3.keep hb2 (Nat.le_refl _); have hc3 := hc2.keep hb2 (Nat.le_refl _); have hk3 := hk2.keep hb2 (Nat.le_refl _)) | (go_at_call 45; refine (HOL.out A2 cp2 Ac2 Ak2 cc2 ck2 Ax cx w3_2 hs4 hc3 hk3 hdx).mono ?_; rintro e w4 ⟨rfl, hb3⟩; have hB3 := hB2.trans (hb3.mono hB2.size)))
          have hbR : Below w3.drew.heap.size w3.drew w4 := ((((((hb0).trans (hb1.mono (hb0).size))).trans (hb2.mono (((hb0).trans (hb1.mono (hb0).size))).size))).trans (hb3.mono (((((hb0).trans (hb1.mono (hb0).size))).trans (hb2.mono (((hb0).trans (hb1.mono (hb0).size))).size))).size))
          have HB4 := Lib.hid ((HB3.out.drew).trans (hbR.mono (HB3.out.drew).size))
          have NBs4 := Lib.hid ((hbR.block Bs (Array.getElem?_eq_some_iff.1 NBs3.out).1).trans NBs3.out)
          have NBp4 := Lib.hid ((hbR.block Bp (Array.getElem?_eq_some_iff.1 NBp3.out).1).trans NBp3.out)
          have FD4 := Lib.hid ((FD3.out.drew).keep hbR (Nat.le_refl _))
          clear HB3 NBs3 NBp3 cBs0_3 cBs1_3 cBs2_3 cBs3_3 cBs4_3 cBp0_3 cBp1_3 FD3 hbR hb0 hB0 hb1 hB1 hb2 hB2 hb3 hB3 hs2 hc2 hk2 hs3 hf1 hf2 hdx hs4 hc3 hk3
          obtain ⟨cBs0_4, cBs1_4, cBs2_4, cBs3_4, cBs4_4⟩ := cells5 NBs4.out
          obtain ⟨cBp0_4, cBp1_4⟩ := cells2 NBp4.out
          go_wp2_with fail
          go_region_held3 (fun X => X.cell? ⟨Bs, 0, none⟩ = some (.int .i64 s.cap) ∧ X.cell? ⟨Bs, 1, none⟩ = some (.int .i64 s.can) ∧ X.cell? ⟨Bs, 2, none⟩ = some (.int .i64 s.sl) ∧ X.cell? ⟨Bs, 3, none⟩ = some (.int .i64 s.sh) ∧ X.cell? ⟨Bs, 4, none⟩ = some (.slice A s.ns.length cp) ∧ X.cell? ⟨Bp, 0, none⟩ = some (.slice Ac c.length cc) ∧ X.cell? ⟨Bp, 1, none⟩ = some (.slice Ak k.length ck))
            (first | go_keep | exact ⟨(cell_later hb0 cBs0_4), (cell_later hb0 cBs1_4), (cell_later hb0 cBs2_4), (cell_later hb0 cBs3_4), (cell_later hb0 cBs4_4), (cell_later hb0 cBp0_4), (cell_later hb0 cBp1_4)⟩ | exact ⟨(cell_later hb1 (cell_later hb0 cBs0_4)), (cell_later hb1 (cell_later hb0 cBs1_4)), (cell_later hb1 (cell_later hb0 cBs2_4)), (cell_later hb1 (cell_later hb0 cBs3_4)), (cell_later hb1 (cell_later hb0 cBs4_4)), (cell_later hb1 (cell_later hb0 cBp0_4)), (cell_later hb1 (cell_later hb0 cBp1_4))⟩ | exact ⟨(cell_later hb2 (cell_later hb1 (cell_later hb0 cBs0_4))), (cell_later hb2 (cell_later hb1 (cell_later hb0 cBs1_4))), (cell_later hb2 (cell_later hb1 (cell_later hb0 cBs2_4))), (cell_later hb2 (cell_later hb1 (cell_later hb0 cBs3_4))), (cell_later hb2 (cell_later hb1 (cell_later hb0 cBs4_4))), (cell_later hb2 (cell_later hb1 (cell_later hb0 cBp0_4))), (cell_later hb2 (cell_later hb1 (cell_later hb0 cBp1_4)))⟩)
            (first | (go_at_call 19; refine (store_conv s A cp w4.drew (HA.out.keep HB4.out.drew (Nat.le_refl _)) n9).mono ?_; rintro e w4_0 ⟨A2, cp2, rfl, hs2, hb0⟩; have hB0 := HB4.out.drew.trans (hb0.mono HB4.out.drew.size)) | (go_at_call 21; refine (plan_conv Ac Ak cc ck c k w4_0 n1 n2 (HC.out.keep hB0 (Nat.le_refl _)) (HK.out.keep hB0 (Nat.le_refl _)) c9 k9).mono ?_; rintro e w4_1 ⟨Ac2, Ak2, cc2, ck2, rfl, hc2, hk2, hb1⟩; have hB1 := hB0.trans (hb1.mono hB0.size); have hs3 := hs2.keep hb1 (Nat.le_refl _)) | (go_at_call 46; refine (HDK.out A2 cp2 Ac2 Ak2 cc2 ck2 w4_1 hs3 hc2 hk2).mono ?_; rintro e w5 ⟨rfl, hb2⟩; have hB2 := hB1.trans (hb2.mono hB1.size)))
          have hbR : Below w4.drew.heap.size w4.drew w5 := ((((hb0).trans (hb1.mono (hb0).size))).trans (hb2.mono (((hb0).trans (hb1.mono (hb0).size))).size))
          have HB5 := Lib.hid ((HB4.out.drew).trans (hbR.mono (HB4.out.drew).size))
          have NBs5 := Lib.hid ((hbR.block Bs (Array.getElem?_eq_some_iff.1 NBs4.out).1).trans NBs4.out)
          have NBp5 := Lib.hid ((hbR.block Bp (Array.getElem?_eq_some_iff.1 NBp4.out).1).trans NBp4.out)
          have FD5 := Lib.hid ((FD4.out.drew).keep hbR (Nat.le_refl _))
          clear HB4 NBs4 NBp4 cBs0_4 cBs1_4 cBs2_4 cBs3_4 cBs4_4 cBp0_4 cBp1_4 FD4 hbR hb0 hB0 hb1 hB1 hb2 hB2 hs2 hc2 hk2 hs3
          obtain ⟨cBs0_5, cBs1_5, cBs2_5, cBs3_5, cBs4_5⟩ := cells5 NBs5.out
          obtain ⟨cBp0_5, cBp1_5⟩ := cells2 NBp5.out
          go_wp2_with fail
          go_region_held3 (fun X => X.cell? ⟨Bs, 0, none⟩ = some (.int .i64 s.cap) ∧ X.cell? ⟨Bs, 1, none⟩ = some (.int .i64 s.can) ∧ X.cell? ⟨Bs, 2, none⟩ = some (.int .i64 s.sl) ∧ X.cell? ⟨Bs, 3, none⟩ = some (.int .i64 s.sh) ∧ X.cell? ⟨Bs, 4, none⟩ = some (.slice A s.ns.length cp) ∧ X.cell? ⟨Bp, 0, none⟩ = some (.slice Ac c.length cc) ∧ X.cell? ⟨Bp, 1, none⟩ = some (.slice Ak k.length ck))
            (first | go_keep | exact ⟨(cell_later hb0 cBs0_5), (cell_later hb0 cBs1_5), (cell_later hb0 cBs2_5), (cell_later hb0 cBs3_5), (cell_later hb0 cBs4_5), (cell_later hb0 cBp0_5), (cell_later hb0 cBp1_5)⟩ | exact ⟨(cell_later hb1 (cell_later hb0 cBs0_5)), (cell_later hb1 (cell_later hb0 cBs1_5)), (cell_later hb1 (cell_later hb0 cBs2_5)), (cell_later hb1 (cell_later hb0 cBs3_5)), (cell_later hb1 (cell_later hb0 cBs4_5)), (cell_later hb1 (cell_later hb0 cBp0_5)), (cell_later hb1 (cell_later hb0 cBp1_5))⟩ | exact ⟨(cell_later hb2 (cell_later hb1 (cell_later hb0 cBs0_5))), (cell_later hb2 (cell_later hb1 (cell_later hb0 cBs1_5))), (cell_later hb2 (cell_later hb1 (cell_later hb0 cBs2_5))), (cell_later hb2 (cell_later hb1 (cell_later hb0 cBs3_5))), (cell_later hb2 (cell_later hb1 (cell_later hb0 cBs4_5))), (cell_later hb2 (cell_later hb1 (cell_later hb0 cBp0_5))), (cell_later hb2 (cell_later hb1 (cell_later hb0 cBp1_5)))⟩)
            (first | (go_at_call 19; refine (store_conv s A cp w5.drew (HA.out.keep HB5.out.drew (Nat.le_refl _)) n9).mono ?_; rintro e w5_0 ⟨A2, cp2, rfl, hs2, hb0⟩; have hB0 := HB5.out.drew.trans (hb0.mono HB5.out.drew.size)) | (go_at_call 21; refine (plan_conv Ac Ak cc ck c k w5_0 n1 n2 (HC.out.keep hB0 (Nat.le_refl _)) (HK.out.keep hB0 (Nat.le_refl _)) c9 k9).mono ?_; rintro e w5_1 ⟨Ac2, Ak2, cc2, ck2, rfl, hc2, hk2, hb1⟩; have hB1 := hB0.trans (hb1.mono hB0.size); have hs3 := hs2.keep hb1 (Nat.le_refl _)) | (go_at_call 51; refine (HPP.out A2 cp2 Ac2 Ak2 cc2 ck2 w5_1 hs3 hc2 hk2).mono ?_; rintro e w6 ⟨rfl, hb2⟩; have hB2 := hB1.trans (hb2.mono hB1.size)))
          have hbR : Below w5.drew.heap.size w5.drew w6 := ((((hb0).trans (hb1.mono (hb0).size))).trans (hb2.mono (((hb0).trans (hb1.mono (hb0).size))).size))
          have HB6 := Lib.hid ((HB5.out.drew).trans (hbR.mono (HB5.out.drew).size))
          have NBs6 := Lib.hid ((hbR.block Bs (Array.getElem?_eq_some_iff.1 NBs5.out).1).trans NBs5.out)
          have NBp6 := Lib.hid ((hbR.block Bp (Array.getElem?_eq_some_iff.1 NBp5.out).1).trans NBp5.out)
          have FD6 := Lib.hid ((FD5.out.drew).keep hbR (Nat.le_refl _))
          clear HB5 NBs5 NBp5 cBs0_5 cBs1_5 cBs2_5 cBs3_5 cBs4_5 cBp0_5 cBp1_5 FD5 hbR hb0 hB0 hb1 hB1 hb2 hB2 hs2 hc2 hk2 hs3
          obtain ⟨cBs0_6, cBs1_6, cBs2_6, cBs3_6, cBs4_6⟩ := cells5 NBs6.out
          obtain ⟨cBp0_6, cBp1_6⟩ := cells2 NBp6.out
          go_wp2_with fail
          go_region_held3 (fun X => X.cell? ⟨Bs, 0, none⟩ = some (.int .i64 s.cap) ∧ X.cell? ⟨Bs, 1, none⟩ = some (.int .i64 s.can) ∧ X.cell? ⟨Bs, 2, none⟩ = some (.int .i64 s.sl) ∧ X.cell? ⟨Bs, 3, none⟩ = some (.int .i64 s.sh) ∧ X.cell? ⟨Bs, 4, none⟩ = some (.slice A s.ns.length cp) ∧ X.cell? ⟨Bp, 0, none⟩ = some (.slice Ac c.length cc) ∧ X.cell? ⟨Bp, 1, none⟩ = some (.slice Ak k.length ck))
            (first | go_keep | exact ⟨(cell_later hb0 cBs0_6), (cell_later hb0 cBs1_6), (cell_later hb0 cBs2_6), (cell_later hb0 cBs3_6), (cell_later hb0 cBs4_6), (cell_later hb0 cBp0_6), (cell_later hb0 cBp1_6)⟩ | exact ⟨(cell_later hb1 (cell_later hb0 cBs0_6)), (cell_later hb1 (cell_later hb0 cBs1_6)), (cell_later hb1 (cell_later hb0 cBs2_6)), (cell_later hb1 (cell_later hb0 cBs3_6)), (cell_later hb1 (cell_later hb0 cBs4_6)), (cell_later hb1 (cell_later hb0 cBp0_6)), (cell_later hb1 (cell_later hb0 cBp1_6))⟩)
            (first | (go_at_call 29; refine (HLD.out w6.drew (HA.out.keep HB6.out.drew (Nat.le_refl _)) (HC.out.keep HB6.out.drew (Nat.le_refl _)) (HK.out.keep HB6.out.drew (Nat.le_refl _)) FD6.out.drew).mono ?_; rintro e w6_0 ⟨rfl, hb0⟩; have hB0 := HB6.out.drew.trans (hb0.mono HB6.out.drew.size)) | (go_at_call 24; refine (HPL2.out w6_0 (HA.out.keep hB0 (Nat.le_refl _)) (HC.out.keep hB0 (Nat.le_refl _)) (HK.out.keep hB0 (Nat.le_refl _))).mono ?_; rintro e w7 ⟨rfl, hb1⟩; have hB1 := hB0.trans (hb1.mono hB0.size)))
          have hbR : Below w6.drew.heap.size w6.drew w7 := ((hb0).trans (hb1.mono (hb0).size))
          have HB7 := Lib.hid ((HB6.out.drew).trans (hbR.mono (HB6.out.drew).size))
          have NBs7 := Lib.hid ((hbR.block Bs (Array.getElem?_eq_some_iff.1 NBs6.out).1).trans NBs6.out)
          have NBp7 := Lib.hid ((hbR.block Bp (Array.getElem?_eq_some_iff.1 NBp6.out).1).trans NBp6.out)
          have FD7 := Lib.hid ((FD6.out.drew).keep hbR (Nat.le_refl _))
          clear HB6 NBs6 NBp6 cBs0_6 cBs1_6 cBs2_6 cBs3_6 cBs4_6 cBp0_6 cBp1_6 FD6 hbR hb0 hB0 hb1 hB1 
          obtain ⟨cBs0_7, cBs1_7, cBs2_7, cBs3_7, cBs4_7⟩ := cells5 NBs7.out
          obtain ⟨cBp0_7, cBp1_7⟩ := cells2 NBp7.out
          have HBF := Lib.hid HB7.out
          go_wp2_with fail
          go_loopw [17] (OLRel 0 w7) (fun i _ => 0 - (intOf i).toNat)
          case atStart => exact ⟨0, by omega, rfl, Below.refl _ _⟩
          case round =>
            obtain ⟨j, hj, rfl, hbe⟩ := hrel
            obtain rfl : j = 0 := by omega
            have HBG := Lib.hid (HBF.out.trans (hbe.mono HBF.out.size))
            clear hbe
            go_wp2_with fail
            refine (awake_any _).mono ?_
            rintro e wz ⟨rfl, hbz⟩
            go_wp2_with fail
            go_ret
            exact ⟨rfl, HBG.out.trans (hbz.mono HBG.out.size)⟩
        · have hdk := fun A2 cp2 Ac2 Ak2 cc2 ck2 W x1 x2 x3 => dark_yes s A2 cp2 Ac2 Ak2 cc2 ck2 c k W x1 x2 x3 hp0
          have hrd := fun W x1 x2 x3 => rdark_any s A cp Ac Ak cc ck c k W hp0 x1 x2 x3
          have hl6 := darkTo_len s (atL c) (atL k) s.ns.length
          have hl7 : (darkL s (atL c) (atL k)).length ≤ 1000000 := by unfold darkL; omega
          rw [prove_dark hp0] at hpp
          rw [hp0] at hpl
          generalize darkL s (atL c) (atL k) = dk at hdk hrd hl7 hpp
          have hcmp : (decide (dk.length = 0) != ((dk.length : Int) == 0)) = false := by
            by_cases h : dk.length = 0
            · simp [h]
            · have : ((dk.length : Int) == 0) = false := beq_false_of_ne (by omega)
              rw [this]; simp [h]
          have HDK := Lib.hid hdk
          have HRD := Lib.hid hrd
          have HPL2 := Lib.hid hpl
          obtain ⟨P, hP⟩ : ∃ P, decide (dk.length = 0) = P := ⟨_, rfl⟩
          have hcmp2 : (!(decide (dk.length = 0) == ((dk.length : Int) == 0))) = false := by
            rw [← hcmp]; generalize decide (dk.length = 0) = x; generalize ((dk.length : Int) == 0) = y; cases x <;> cases y <;> rfl
          rw [hP] at hpp hcmp hcmp2
          have HPP := Lib.hid hpp
          have HCMP := Lib.hid hcmp
          have HCMP2 := Lib.hid hcmp2
          clear hdk hrd hl6 hpl hpp hP hcmp hcmp2
          by_cases hq0 : dippedL s c k dips = 0
          rotate_left
          · have hol := fun A2 cp2 Ac2 Ak2 cc2 ck2 Ax cx W x1 x2 x3 x4 => oil_no s A2 cp2 Ac2 Ak2 cc2 ck2 c k Ax cx dips W x1 x2 x3 x4 n9 c9 k9 d9 hq0
            obtain ⟨Q, hQ⟩ : ∃ Q, dippedL s c k dips = Q := ⟨_, rfl⟩
            rw [hQ] at hol hld hq0
            have HOL := Lib.hid hol
            have HLD := Lib.hid hld
            have hq1 : (Q == 0) = false := by simpa using hq0
            have hq2 : (Q != 0) = true := by simpa using hq0
            have hq3 : (Q != Q) = false := by simp
            clear hol hld hQ hq0
            go_wp2_with fail
            go_region_held3 (fun X => X.cell? ⟨Bs, 0, none⟩ = some (.int .i64 s.cap) ∧ X.cell? ⟨Bs, 1, none⟩ = some (.int .i64 s.can) ∧ X.cell? ⟨Bs, 2, none⟩ = some (.int .i64 s.sl) ∧ X.cell? ⟨Bs, 3, none⟩ = some (.int .i64 s.sh) ∧ X.cell? ⟨Bs, 4, none⟩ = some (.slice A s.ns.length cp) ∧ X.cell? ⟨Bp, 0, none⟩ = some (.slice Ac c.length cc) ∧ X.cell? ⟨Bp, 1, none⟩ = some (.slice Ak k.length ck))
              (first | go_keep | exact ⟨(cell_later hb0 cBs0_3), (cell_later hb0 cBs1_3), (cell_later hb0 cBs2_3), (cell_later hb0 cBs3_3), (cell_later hb0 cBs4_3), (cell_later hb0 cBp0_3), (cell_later hb0 cBp1_3)⟩ | exact ⟨(cell_later hb1 (cell_later hb0 cBs0_3)), (cell_later hb1 (cell_later hb0 cBs1_3)), (cell_later hb1 (cell_later hb0 cBs2_3)), (cell_later hb1 (cell_later hb0 cBs3_3)), (cell_later hb1 (cell_later hb0 cBs4_3)), (cell_later hb1 (cell_later hb0 cBp0_3)), (cell_later hb1 (cell_later hb0 cBp1_3))⟩ | exact ⟨(cell_later hb2 (cell_later hb1 (cell_later hb0 cBs0_3))), (cell_later hb2 (cell_later hb1 (cell_later hb0 cBs1_3))), (cell_later hb2 (cell_later hb1 (cell_later hb0 cBs2_3))), (cell_later hb2 (cell_later hb1 (cell_later hb0 cBs3_3))), (cell_later hb2 (cell_later hb1 (cell_later hb0 cBs4_3))), (cell_later hb2 (cell_later hb1 (cell_later hb0 cBp0_3))), (cell_later hb2 (cell_later hb1 (cell_later hb0 cBp1_3)))⟩ | exact ⟨(cell_later hb3 (cell_later hb2 (cell_later hb1 (cell_later hb0 cBs0_3)))), (cell_later hb3 (cell_later hb2 (cell_later hb1 (cell_later hb0 cBs1_3)))), (cell_later hb3 (cell_later hb2 (cell_later hb1 (cell_later hb0 cBs2_3)))), (cell_later hb3 (cell_later hb2 (cell_later hb1 (cell_later hb0 cBs3_3)))), (cell_later hb3 (cell_later hb2 (cell_later hb1 (cell_later hb0 cBs4_3)))), (cell_later hb3 (cell_later hb2 (cell_later hb1 (cell_later hb0 cBp0_3)))), (cell_later hb3 (cell_later hb2 (cell_later hb1 (cell_later hb0 cBp1_3))))⟩)
              (first | (go_at_call 19; refine (store_conv s A cp w3.drew (HA.out.keep HB3.out.drew (Nat.le_refl _)) n9).mono ?_; rintro e w3_0 ⟨A2, cp2, rfl, hs2, hb0⟩; have hB0 := HB3.out.drew.trans (hb0.mono HB3.out.drew.size); have hf1 := (FD3.out.drew).keep hb0 (Nat.le_refl _)) | (go_at_call 21; refine (plan_conv Ac Ak cc ck c k w3_0 n1 n2 (HC.out.keep hB0 (Nat.le_refl _)) (HK.out.keep hB0 (Nat.le_refl _)) c9 k9).mono ?_; rintro e w3_1 ⟨Ac2, Ak2, cc2, ck2, rfl, hc2, hk2, hb1⟩; have hB1 := hB0.trans (hb1.mono hB0.size); have hs3 := hs2.keep hb1 (Nat.le_refl _); have hf2 := hf1.keep hb1 (Nat.le_refl _)) | (go_at_call 31; refine (dips_conv Ad cd dips w3_1 hf2 d9).mono ?_; rintro e w3_2 ⟨Ax, cx, rfl, hdx, hb2⟩; have hB2 := hB1.trans (hb2.mono hB1.size); have hs4 := hs3.keep hb2 (Nat.le_refl _); have hc3 := hc2.keep hb2 (Nat.le_refl _); have hk3 := hk2.keep hb2 (Nat.le_refl _)) | (go_at_call 45; refine (HOL.out A2 cp2 Ac2 Ak2 cc2 ck2 Ax cx w3_2 hs4 hc3 hk3 hdx).mono ?_; rintro e w4 ⟨rfl, hb3⟩; have hB3 := hB2.trans (hb3.mono hB2.size)))
            have hbR : Below w3.drew.heap.size w3.drew w4 := ((((((hb0).trans (hb1.mono (hb0).size))).trans (hb2.mono (((hb0).trans (hb1.mono (hb0).size))).size))).trans (hb3.mono (((((hb0).trans (hb1.mono (hb0).size))).trans (hb2.mono (((hb0).trans (hb1.mono (hb0).size))).size))).size))
            have HB4 := Lib.hid ((HB3.out.drew).trans (hbR.mono (HB3.out.drew).size))
            have NBs4 := Lib.hid ((hbR.block Bs (Array.getElem?_eq_some_iff.1 NBs3.out).1).trans NBs3.out)
            have NBp4 := Lib.hid ((hbR.block Bp (Array.getElem?_eq_some_iff.1 NBp3.out).1).trans NBp3.out)
            have FD4 := Lib.hid ((FD3.out.drew).keep hbR (Nat.le_refl _))
            clear HB3 NBs3 NBp3 cBs0_3 cBs1_3 cBs2_3 cBs3_3 cBs4_3 cBp0_3 cBp1_3 FD3 hbR hb0 hB0 hb1 hB1 hb2 hB2 hb3 hB3 hs2 hc2 hk2 hs3 hf1 hf2 hdx hs4 hc3 hk3
            obtain ⟨cBs0_4, cBs1_4, cBs2_4, cBs3_4, cBs4_4⟩ := cells5 NBs4.out
            obtain ⟨cBp0_4, cBp1_4⟩ := cells2 NBp4.out
            go_wp2_with fail
            go_region_held3 (fun X => X.cell? ⟨Bs, 0, none⟩ = some (.int .i64 s.cap) ∧ X.cell? ⟨Bs, 1, none⟩ = some (.int .i64 s.can) ∧ X.cell? ⟨Bs, 2, none⟩ = some (.int .i64 s.sl) ∧ X.cell? ⟨Bs, 3, none⟩ = some (.int .i64 s.sh) ∧ X.cell? ⟨Bs, 4, none⟩ = some (.slice A s.ns.length cp) ∧ X.cell? ⟨Bp, 0, none⟩ = some (.slice Ac c.length cc) ∧ X.cell? ⟨Bp, 1, none⟩ = some (.slice Ak k.length ck))
              (first | go_keep | exact ⟨(cell_later hb0 cBs0_4), (cell_later hb0 cBs1_4), (cell_later hb0 cBs2_4), (cell_later hb0 cBs3_4), (cell_later hb0 cBs4_4), (cell_later hb0 cBp0_4), (cell_later hb0 cBp1_4)⟩ | exact ⟨(cell_later hb1 (cell_later hb0 cBs0_4)), (cell_later hb1 (cell_later hb0 cBs1_4)), (cell_later hb1 (cell_later hb0 cBs2_4)), (cell_later hb1 (cell_later hb0 cBs3_4)), (cell_later hb1 (cell_later hb0 cBs4_4)), (cell_later hb1 (cell_later hb0 cBp0_4)), (cell_later hb1 (cell_later hb0 cBp1_4))⟩ | exact ⟨(cell_later hb2 (cell_later hb1 (cell_later hb0 cBs0_4))), (cell_later hb2 (cell_later hb1 (cell_later hb0 cBs1_4))), (cell_later hb2 (cell_later hb1 (cell_later hb0 cBs2_4))), (cell_later hb2 (cell_later hb1 (cell_later hb0 cBs3_4))), (cell_later hb2 (cell_later hb1 (cell_later hb0 cBs4_4))), (cell_later hb2 (cell_later hb1 (cell_later hb0 cBp0_4))), (cell_later hb2 (cell_later hb1 (cell_later hb0 cBp1_4)))⟩)
              (first | (go_at_call 19; refine (store_conv s A cp w4.drew (HA.out.keep HB4.out.drew (Nat.le_refl _)) n9).mono ?_; rintro e w4_0 ⟨A2, cp2, rfl, hs2, hb0⟩; have hB0 := HB4.out.drew.trans (hb0.mono HB4.out.drew.size)) | (go_at_call 21; refine (plan_conv Ac Ak cc ck c k w4_0 n1 n2 (HC.out.keep hB0 (Nat.le_refl _)) (HK.out.keep hB0 (Nat.le_refl _)) c9 k9).mono ?_; rintro e w4_1 ⟨Ac2, Ak2, cc2, ck2, rfl, hc2, hk2, hb1⟩; have hB1 := hB0.trans (hb1.mono hB0.size); have hs3 := hs2.keep hb1 (Nat.le_refl _)) | (go_at_call 46; refine (HDK.out A2 cp2 Ac2 Ak2 cc2 ck2 w4_1 hs3 hc2 hk2).mono ?_; rintro e w5 ⟨Dk, dkc, rfl, hdd, hb2⟩; have hB2 := hB1.trans (hb2.mono hB1.size)))
            have hbR : Below w4.drew.heap.size w4.drew w5 := ((((hb0).trans (hb1.mono (hb0).size))).trans (hb2.mono (((hb0).trans (hb1.mono (hb0).size))).size))
            have HB5 := Lib.hid ((HB4.out.drew).trans (hbR.mono (HB4.out.drew).size))
            have NBs5 := Lib.hid ((hbR.block Bs (Array.getElem?_eq_some_iff.1 NBs4.out).1).trans NBs4.out)
            have NBp5 := Lib.hid ((hbR.block Bp (Array.getElem?_eq_some_iff.1 NBp4.out).1).trans NBp4.out)
            have FD5 := Lib.hid ((FD4.out.drew).keep hbR (Nat.le_refl _))
            have FK5 := Lib.hid hdd
            clear HB4 NBs4 NBp4 cBs0_4 cBs1_4 cBs2_4 cBs3_4 cBs4_4 cBp0_4 cBp1_4 FD4 hdd hbR hb0 hB0 hb1 hB1 hb2 hB2 hs2 hc2 hk2 hs3
            obtain ⟨cBs0_5, cBs1_5, cBs2_5, cBs3_5, cBs4_5⟩ := cells5 NBs5.out
            obtain ⟨cBp0_5, cBp1_5⟩ := cells2 NBp5.out
            go_wp2_with fail
            go_region_held3 (fun X => X.cell? ⟨Bs, 0, none⟩ = some (.int .i64 s.cap) ∧ X.cell? ⟨Bs, 1, none⟩ = some (.int .i64 s.can) ∧ X.cell? ⟨Bs, 2, none⟩ = some (.int .i64 s.sl) ∧ X.cell? ⟨Bs, 3, none⟩ = some (.int .i64 s.sh) ∧ X.cell? ⟨Bs, 4, none⟩ = some (.slice A s.ns.length cp) ∧ X.cell? ⟨Bp, 0, none⟩ = some (.slice Ac c.length cc) ∧ X.cell? ⟨Bp, 1, none⟩ = some (.slice Ak k.length ck))
              (first | go_keep | exact ⟨(cell_later hb0 cBs0_5), (cell_later hb0 cBs1_5), (cell_later hb0 cBs2_5), (cell_later hb0 cBs3_5), (cell_later hb0 cBs4_5), (cell_later hb0 cBp0_5), (cell_later hb0 cBp1_5)⟩ | exact ⟨(cell_later hb1 (cell_later hb0 cBs0_5)), (cell_later hb1 (cell_later hb0 cBs1_5)), (cell_later hb1 (cell_later hb0 cBs2_5)), (cell_later hb1 (cell_later hb0 cBs3_5)), (cell_later hb1 (cell_later hb0 cBs4_5)), (cell_later hb1 (cell_later hb0 cBp0_5)), (cell_later hb1 (cell_later hb0 cBp1_5))⟩ | exact ⟨(cell_later hb2 (cell_later hb1 (cell_later hb0 cBs0_5))), (cell_later hb2 (cell_later hb1 (cell_later hb0 cBs1_5))), (cell_later hb2 (cell_later hb1 (cell_later hb0 cBs2_5))), (cell_later hb2 (cell_later hb1 (cell_later hb0 cBs3_5))), (cell_later hb2 (cell_later hb1 (cell_later hb0 cBs4_5))), (cell_later hb2 (cell_later hb1 (cell_later hb0 cBp0_5))), (cell_later hb2 (cell_later hb1 (cell_later hb0 cBp1_5)))⟩)
              (first | (go_at_call 19; refine (store_conv s A cp w5.drew (HA.out.keep HB5.out.drew (Nat.le_refl _)) n9).mono ?_; rintro e w5_0 ⟨A2, cp2, rfl, hs2, hb0⟩; have hB0 := HB5.out.drew.trans (hb0.mono HB5.out.drew.size)) | (go_at_call 21; refine (plan_conv Ac Ak cc ck c k w5_0 n1 n2 (HC.out.keep hB0 (Nat.le_refl _)) (HK.out.keep hB0 (Nat.le_refl _)) c9 k9).mono ?_; rintro e w5_1 ⟨Ac2, Ak2, cc2, ck2, rfl, hc2, hk2, hb1⟩; have hB1 := hB0.trans (hb1.mono hB0.size); have hs3 := hs2.keep hb1 (Nat.le_refl _)) | (go_at_call 51; refine (HPP.out A2 cp2 Ac2 Ak2 cc2 ck2 w5_1 hs3 hc2 hk2).mono ?_; rintro e w6 ⟨rfl, hb2⟩; have hB2 := hB1.trans (hb2.mono hB1.size)))
            have hbR : Below w5.drew.heap.size w5.drew w6 := ((((hb0).trans (hb1.mono (hb0).size))).trans (hb2.mono (((hb0).trans (hb1.mono (hb0).size))).size))
            have HB6 := Lib.hid ((HB5.out.drew).trans (hbR.mono (HB5.out.drew).size))
            have NBs6 := Lib.hid ((hbR.block Bs (Array.getElem?_eq_some_iff.1 NBs5.out).1).trans NBs5.out)
            have NBp6 := Lib.hid ((hbR.block Bp (Array.getElem?_eq_some_iff.1 NBp5.out).1).trans NBp5.out)
            have FD6 := Lib.hid ((FD5.out.drew).keep hbR (Nat.le_refl _))
            have FK6 := Lib.hid ((FK5.out.drew).keep hbR (Nat.le_refl _))
            clear HB5 NBs5 NBp5 cBs0_5 cBs1_5 cBs2_5 cBs3_5 cBs4_5 cBp0_5 cBp1_5 FD5 FK5 hbR hb0 hB0 hb1 hB1 hb2 hB2 hs2 hc2 hk2 hs3
            obtain ⟨cBs0_6, cBs1_6, cBs2_6, cBs3_6, cBs4_6⟩ := cells5 NBs6.out
            obtain ⟨cBp0_6, cBp1_6⟩ := cells2 NBp6.out
            go_wp2_with fail
            go_region_held3 (fun X => X.cell? ⟨Bs, 0, none⟩ = some (.int .i64 s.cap) ∧ X.cell? ⟨Bs, 1, none⟩ = some (.int .i64 s.can) ∧ X.cell? ⟨Bs, 2, none⟩ = some (.int .i64 s.sl) ∧ X.cell? ⟨Bs, 3, none⟩ = some (.int .i64 s.sh) ∧ X.cell? ⟨Bs, 4, none⟩ = some (.slice A s.ns.length cp) ∧ X.cell? ⟨Bp, 0, none⟩ = some (.slice Ac c.length cc) ∧ X.cell? ⟨Bp, 1, none⟩ = some (.slice Ak k.length ck))
              (first | go_keep | exact ⟨(cell_later hb0 cBs0_6), (cell_later hb0 cBs1_6), (cell_later hb0 cBs2_6), (cell_later hb0 cBs3_6), (cell_later hb0 cBs4_6), (cell_later hb0 cBp0_6), (cell_later hb0 cBp1_6)⟩ | exact ⟨(cell_later hb1 (cell_later hb0 cBs0_6)), (cell_later hb1 (cell_later hb0 cBs1_6)), (cell_later hb1 (cell_later hb0 cBs2_6)), (cell_later hb1 (cell_later hb0 cBs3_6)), (cell_later hb1 (cell_later hb0 cBs4_6)), (cell_later hb1 (cell_later hb0 cBp0_6)), (cell_later hb1 (cell_later hb0 cBp1_6))⟩)
              (first | (go_at_call 29; refine (HLD.out w6.drew (HA.out.keep HB6.out.drew (Nat.le_refl _)) (HC.out.keep HB6.out.drew (Nat.le_refl _)) (HK.out.keep HB6.out.drew (Nat.le_refl _)) FD6.out.drew).mono ?_; rintro e w6_0 ⟨rfl, hb0⟩; have hB0 := HB6.out.drew.trans (hb0.mono HB6.out.drew.size)) | (go_at_call 24; refine (HPL2.out w6_0 (HA.out.keep hB0 (Nat.le_refl _)) (HC.out.keep hB0 (Nat.le_refl _)) (HK.out.keep hB0 (Nat.le_refl _))).mono ?_; rintro e w7 ⟨rfl, hb1⟩; have hB1 := hB0.trans (hb1.mono hB0.size)))
            have hbR : Below w6.drew.heap.size w6.drew w7 := ((hb0).trans (hb1.mono (hb0).size))
            have HB7 := Lib.hid ((HB6.out.drew).trans (hbR.mono (HB6.out.drew).size))
            have NBs7 := Lib.hid ((hbR.block Bs (Array.getElem?_eq_some_iff.1 NBs6.out).1).trans NBs6.out)
            have NBp7 := Lib.hid ((hbR.block Bp (Array.getElem?_eq_some_iff.1 NBp6.out).1).trans NBp6.out)
            have FD7 := Lib.hid ((FD6.out.drew).keep hbR (Nat.le_refl _))
            have FK7 := Lib.hid ((FK6.out.drew).keep hbR (Nat.le_refl _))
            clear HB6 NBs6 NBp6 cBs0_6 cBs1_6 cBs2_6 cBs3_6 cBs4_6 cBp0_6 cBp1_6 FD6 FK6 hbR hb0 hB0 hb1 hB1 
            obtain ⟨cBs0_7, cBs1_7, cBs2_7, cBs3_7, cBs4_7⟩ := cells5 NBs7.out
            obtain ⟨cBp0_7, cBp1_7⟩ := cells2 NBp7.out
            go_wp2_with fail
            refine (HRD.out w7 (HA.out.keep HB7.out (Nat.le_refl _)) (HC.out.keep HB7.out (Nat.le_refl _)) (HK.out.keep HB7.out (Nat.le_refl _))).mono ?_
            rintro e w8 ⟨Ar, cr, rfl, hrv, hb⟩
            have HB8 := Lib.hid ((HB7.out).trans (hb.mono (HB7.out).size))
            have NBs8 := Lib.hid ((hb.block Bs (Array.getElem?_eq_some_iff.1 NBs7.out).1).trans NBs7.out)
            have NBp8 := Lib.hid ((hb.block Bp (Array.getElem?_eq_some_iff.1 NBp7.out).1).trans NBp7.out)
            have FD8 := Lib.hid ((FD7.out).keep hb (Nat.le_refl _))
            have FK8 := Lib.hid ((FK7.out).keep hb (Nat.le_refl _))
            have FY8 := Lib.hid hrv
            clear HB7 NBs7 NBp7 cBs0_7 cBs1_7 cBs2_7 cBs3_7 cBs4_7 cBp0_7 cBp1_7 FD7 FK7 hrv hb 
            obtain ⟨cBs0_8, cBs1_8, cBs2_8, cBs3_8, cBs4_8⟩ := cells5 NBs8.out
            obtain ⟨cBp0_8, cBp1_8⟩ := cells2 NBp8.out
            have hsm := Lib.hid (same_any _ _ dk dk w8 FK8.out FY8.out hl7 hl7)
            rw [show decide (dk = dk) = true by simp] at hsm
            have hcmp := HCMP.out
            have hcmp2 := HCMP2.out
            go_wp2_with fail
            refine (hsm.out).mono ?_
            rintro e w9 ⟨rfl, hb⟩
            have HB9 := Lib.hid ((HB8.out).trans (hb.mono (HB8.out).size))
            have NBs9 := Lib.hid ((hb.block Bs (Array.getElem?_eq_some_iff.1 NBs8.out).1).trans NBs8.out)
            have NBp9 := Lib.hid ((hb.block Bp (Array.getElem?_eq_some_iff.1 NBp8.out).1).trans NBp8.out)
            have FD9 := Lib.hid ((FD8.out).keep hb (Nat.le_refl _))
            have FK9 := Lib.hid ((FK8.out).keep hb (Nat.le_refl _))
            have FY9 := Lib.hid ((FY8.out).keep hb (Nat.le_refl _))
            clear HB8 NBs8 NBp8 cBs0_8 cBs1_8 cBs2_8 cBs3_8 cBs4_8 cBp0_8 cBp1_8 FD8 FK8 FY8 hb hsm
            obtain ⟨cBs0_9, cBs1_9, cBs2_9, cBs3_9, cBs4_9⟩ := cells5 NBs9.out
            obtain ⟨cBp0_9, cBp1_9⟩ := cells2 NBp9.out
            have HBF := Lib.hid HB9.out
            go_wp2_with fail
            go_loopw [17] (OLRel 0 w9) (fun i _ => 0 - (intOf i).toNat)
            case atStart => exact ⟨0, by omega, rfl, Below.refl _ _⟩
            case round =>
              obtain ⟨j, hj, rfl, hbe⟩ := hrel
              obtain rfl : j = 0 := by omega
              have HBG := Lib.hid (HBF.out.trans (hbe.mono HBF.out.size))
              clear hbe
              go_wp2_with fail
              refine (awake_any _).mono ?_
              rintro e wz ⟨rfl, hbz⟩
              go_wp2_with fail
              go_ret
              exact ⟨rfl, HBG.out.trans (hbz.mono HBG.out.size)⟩
          · obtain ⟨_, hdv⟩ := dipsL_zero hq0
            rw [hq0] at hld
            have HLD := Lib.hid hld
            have HRO := Lib.hid (fun W x1 x2 x3 x4 => roil_zero s A cp Ac Ak cc ck c k Ad cd dips W hp0 hdv (by omega) x1 x2 x3 x4)
            have HCS := Lib.hid (fun A2 cp2 Ac2 Ak2 cc2 ck2 Ax cx W x1 x2 x3 x4 hx => oil_yes s A2 cp2 Ac2 Ak2 cc2 ck2 c k Ax cx dips W x1 x2 x3 x4 hq0 hx)
            have HCF := Lib.hid (fun A2 cp2 Ac2 Ak2 cc2 ck2 Ax cx W x1 x2 x3 x4 hx => oil_fail s A2 cp2 Ac2 Ak2 cc2 ck2 c k Ax cx dips W x1 x2 x3 x4 hq0 hx)
            clear hld hdv hq0
            by_cases hx : Cons s (atL c) (atL k) dips
            rotate_left
            · have HXX := Lib.hid hx
              clear hx
              go_wp2_with fail
              go_region_held3 (fun X => X.cell? ⟨Bs, 0, none⟩ = some (.int .i64 s.cap) ∧ X.cell? ⟨Bs, 1, none⟩ = some (.int .i64 s.can) ∧ X.cell? ⟨Bs, 2, none⟩ = some (.int .i64 s.sl) ∧ X.cell? ⟨Bs, 3, none⟩ = some (.int .i64 s.sh) ∧ X.cell? ⟨Bs, 4, none⟩ = some (.slice A s.ns.length cp) ∧ X.cell? ⟨Bp, 0, none⟩ = some (.slice Ac c.length cc) ∧ X.cell? ⟨Bp, 1, none⟩ = some (.slice Ak k.length ck))
                (first | go_keep | exact ⟨(cell_later hb0 cBs0_3), (cell_later hb0 cBs1_3), (cell_later hb0 cBs2_3), (cell_later hb0 cBs3_3), (cell_later hb0 cBs4_3), (cell_later hb0 cBp0_3), (cell_later hb0 cBp1_3)⟩ | exact ⟨(cell_later hb1 (cell_later hb0 cBs0_3)), (cell_later hb1 (cell_later hb0 cBs1_3)), (cell_later hb1 (cell_later hb0 cBs2_3)), (cell_later hb1 (cell_later hb0 cBs3_3)), (cell_later hb1 (cell_later hb0 cBs4_3)), (cell_later hb1 (cell_later hb0 cBp0_3)), (cell_later hb1 (cell_later hb0 cBp1_3))⟩ | exact ⟨(cell_later hb2 (cell_later hb1 (cell_later hb0 cBs0_3))), (cell_later hb2 (cell_later hb1 (cell_later hb0 cBs1_3))), (cell_later hb2 (cell_later hb1 (cell_later hb0 cBs2_3))), (cell_later hb2 (cell_later hb1 (cell_later hb0 cBs3_3))), (cell_later hb2 (cell_later hb1 (cell_later hb0 cBs4_3))), (cell_later hb2 (cell_later hb1 (cell_later hb0 cBp0_3))), (cell_later hb2 (cell_later hb1 (cell_later hb0 cBp1_3)))⟩ | exact ⟨(cell_later hb3 (cell_later hb2 (cell_later hb1 (cell_later hb0 cBs0_3)))), (cell_later hb3 (cell_later hb2 (cell_later hb1 (cell_later hb0 cBs1_3)))), (cell_later hb3 (cell_later hb2 (cell_later hb1 (cell_later hb0 cBs2_3)))), (cell_later hb3 (cell_later hb2 (cell_later hb1 (cell_later hb0 cBs3_3)))), (cell_later hb3 (cell_later hb2 (cell_later hb1 (cell_later hb0 cBs4_3)))), (cell_later hb3 (cell_later hb2 (cell_later hb1 (cell_later hb0 cBp0_3)))), (cell_later hb3 (cell_later hb2 (cell_later hb1 (cell_later hb0 cBp1_3))))⟩)
                (first | (go_at_call 19; refine (store_conv s A cp w3.drew (HA.out.keep HB3.out.drew (Nat.le_refl _)) n9).mono ?_; rintro e w3_0 ⟨A2, cp2, rfl, hs2, hb0⟩; have hB0 := HB3.out.drew.trans (hb0.mono HB3.out.drew.size); have hf1 := (FD3.out.drew).keep hb0 (Nat.le_refl _)) | (go_at_call 21; refine (plan_conv Ac Ak cc ck c k w3_0 n1 n2 (HC.out.keep hB0 (Nat.le_refl _)) (HK.out.keep hB0 (Nat.le_refl _)) c9 k9).mono ?_; rintro e w3_1 ⟨Ac2, Ak2, cc2, ck2, rfl, hc2, hk2, hb1⟩; have hB1 := hB0.trans (hb1.mono hB0.size); have hs3 := hs2.keep hb1 (Nat.le_refl _); have hf2 := hf1.keep hb1 (Nat.le_refl _)) | (go_at_call 31; refine (dips_conv Ad cd dips w3_1 hf2 d9).mono ?_; rintro e w3_2 ⟨Ax, cx, rfl, hdx, hb2⟩; have hB2 := hB1.trans (hb2.mono hB1.size); have hs4 := hs3.keep hb2 (Nat.le_refl _); have hc3 := hc2.keep hb2 (Nat.le_refl _); have hk3 := hk2.keep hb2 (Nat.le_refl _)) | (go_at_call 45; refine (HCF.out A2 cp2 Ac2 Ak2 cc2 ck2 Ax cx w3_2 hs4 hc3 hk3 hdx HXX.out).mono ?_; rintro e w4 ⟨rfl, hb3⟩; have hB3 := hB2.trans (hb3.mono hB2.size)))
              have hbR : Below w3.drew.heap.size w3.drew w4 := ((((((hb0).trans (hb1.mono (hb0).size))).trans (hb2.mono (((hb0).trans (hb1.mono (hb0).size))).size))).trans (hb3.mono (((((hb0).trans (hb1.mono (hb0).size))).trans (hb2.mono (((hb0).trans (hb1.mono (hb0).size))).size))).size))
              have HB4 := Lib.hid ((HB3.out.drew).trans (hbR.mono (HB3.out.drew).size))
              have NBs4 := Lib.hid ((hbR.block Bs (Array.getElem?_eq_some_iff.1 NBs3.out).1).trans NBs3.out)
              have NBp4 := Lib.hid ((hbR.block Bp (Array.getElem?_eq_some_iff.1 NBp3.out).1).trans NBp3.out)
              have FD4 := Lib.hid ((FD3.out.drew).keep hbR (Nat.le_refl _))
              clear HB3 NBs3 NBp3 cBs0_3 cBs1_3 cBs2_3 cBs3_3 cBs4_3 cBp0_3 cBp1_3 FD3 hbR hb0 hB0 hb1 hB1 hb2 hB2 hb3 hB3 hs2 hc2 hk2 hs3 hf1 hf2 hdx hs4 hc3 hk3
              obtain ⟨cBs0_4, cBs1_4, cBs2_4, cBs3_4, cBs4_4⟩ := cells5 NBs4.out
              obtain ⟨cBp0_4, cBp1_4⟩ := cells2 NBp4.out
              go_wp2_with fail
              go_region_held3 (fun X => X.cell? ⟨Bs, 0, none⟩ = some (.int .i64 s.cap) ∧ X.cell? ⟨Bs, 1, none⟩ = some (.int .i64 s.can) ∧ X.cell? ⟨Bs, 2, none⟩ = some (.int .i64 s.sl) ∧ X.cell? ⟨Bs, 3, none⟩ = some (.int .i64 s.sh) ∧ X.cell? ⟨Bs, 4, none⟩ = some (.slice A s.ns.length cp) ∧ X.cell? ⟨Bp, 0, none⟩ = some (.slice Ac c.length cc) ∧ X.cell? ⟨Bp, 1, none⟩ = some (.slice Ak k.length ck))
                (first | go_keep | exact ⟨(cell_later hb0 cBs0_4), (cell_later hb0 cBs1_4), (cell_later hb0 cBs2_4), (cell_later hb0 cBs3_4), (cell_later hb0 cBs4_4), (cell_later hb0 cBp0_4), (cell_later hb0 cBp1_4)⟩ | exact ⟨(cell_later hb1 (cell_later hb0 cBs0_4)), (cell_later hb1 (cell_later hb0 cBs1_4)), (cell_later hb1 (cell_later hb0 cBs2_4)), (cell_later hb1 (cell_later hb0 cBs3_4)), (cell_later hb1 (cell_later hb0 cBs4_4)), (cell_later hb1 (cell_later hb0 cBp0_4)), (cell_later hb1 (cell_later hb0 cBp1_4))⟩ | exact ⟨(cell_later hb2 (cell_later hb1 (cell_later hb0 cBs0_4))), (cell_later hb2 (cell_later hb1 (cell_later hb0 cBs1_4))), (cell_later hb2 (cell_later hb1 (cell_later hb0 cBs2_4))), (cell_later hb2 (cell_later hb1 (cell_later hb0 cBs3_4))), (cell_later hb2 (cell_later hb1 (cell_later hb0 cBs4_4))), (cell_later hb2 (cell_later hb1 (cell_later hb0 cBp0_4))), (cell_later hb2 (cell_later hb1 (cell_later hb0 cBp1_4)))⟩)
                (first | (go_at_call 19; refine (store_conv s A cp w4.drew (HA.out.keep HB4.out.drew (Nat.le_refl _)) n9).mono ?_; rintro e w4_0 ⟨A2, cp2, rfl, hs2, hb0⟩; have hB0 := HB4.out.drew.trans (hb0.mono HB4.out.drew.size)) | (go_at_call 21; refine (plan_conv Ac Ak cc ck c k w4_0 n1 n2 (HC.out.keep hB0 (Nat.le_refl _)) (HK.out.keep hB0 (Nat.le_refl _)) c9 k9).mono ?_; rintro e w4_1 ⟨Ac2, Ak2, cc2, ck2, rfl, hc2, hk2, hb1⟩; have hB1 := hB0.trans (hb1.mono hB0.size); have hs3 := hs2.keep hb1 (Nat.le_refl _)) | (go_at_call 46; refine (HDK.out A2 cp2 Ac2 Ak2 cc2 ck2 w4_1 hs3 hc2 hk2).mono ?_; rintro e w5 ⟨Dk, dkc, rfl, hdd, hb2⟩; have hB2 := hB1.trans (hb2.mono hB1.size)))
              have hbR : Below w4.drew.heap.size w4.drew w5 := ((((hb0).trans (hb1.mono (hb0).size))).trans (hb2.mono (((hb0).trans (hb1.mono (hb0).size))).size))
              have HB5 := Lib.hid ((HB4.out.drew).trans (hbR.mono (HB4.out.drew).size))
              have NBs5 := Lib.hid ((hbR.block Bs (Array.getElem?_eq_some_iff.1 NBs4.out).1).trans NBs4.out)
              have NBp5 := Lib.hid ((hbR.block Bp (Array.getElem?_eq_some_iff.1 NBp4.out).1).trans NBp4.out)
              have FD5 := Lib.hid ((FD4.out.drew).keep hbR (Nat.le_refl _))
              have FK5 := Lib.hid hdd
              clear HB4 NBs4 NBp4 cBs0_4 cBs1_4 cBs2_4 cBs3_4 cBs4_4 cBp0_4 cBp1_4 FD4 hdd hbR hb0 hB0 hb1 hB1 hb2 hB2 hs2 hc2 hk2 hs3
              obtain ⟨cBs0_5, cBs1_5, cBs2_5, cBs3_5, cBs4_5⟩ := cells5 NBs5.out
              obtain ⟨cBp0_5, cBp1_5⟩ := cells2 NBp5.out
              go_wp2_with fail
              go_region_held3 (fun X => X.cell? ⟨Bs, 0, none⟩ = some (.int .i64 s.cap) ∧ X.cell? ⟨Bs, 1, none⟩ = some (.int .i64 s.can) ∧ X.cell? ⟨Bs, 2, none⟩ = some (.int .i64 s.sl) ∧ X.cell? ⟨Bs, 3, none⟩ = some (.int .i64 s.sh) ∧ X.cell? ⟨Bs, 4, none⟩ = some (.slice A s.ns.length cp) ∧ X.cell? ⟨Bp, 0, none⟩ = some (.slice Ac c.length cc) ∧ X.cell? ⟨Bp, 1, none⟩ = some (.slice Ak k.length ck))
                (first | go_keep | exact ⟨(cell_later hb0 cBs0_5), (cell_later hb0 cBs1_5), (cell_later hb0 cBs2_5), (cell_later hb0 cBs3_5), (cell_later hb0 cBs4_5), (cell_later hb0 cBp0_5), (cell_later hb0 cBp1_5)⟩ | exact ⟨(cell_later hb1 (cell_later hb0 cBs0_5)), (cell_later hb1 (cell_later hb0 cBs1_5)), (cell_later hb1 (cell_later hb0 cBs2_5)), (cell_later hb1 (cell_later hb0 cBs3_5)), (cell_later hb1 (cell_later hb0 cBs4_5)), (cell_later hb1 (cell_later hb0 cBp0_5)), (cell_later hb1 (cell_later hb0 cBp1_5))⟩ | exact ⟨(cell_later hb2 (cell_later hb1 (cell_later hb0 cBs0_5))), (cell_later hb2 (cell_later hb1 (cell_later hb0 cBs1_5))), (cell_later hb2 (cell_later hb1 (cell_later hb0 cBs2_5))), (cell_later hb2 (cell_later hb1 (cell_later hb0 cBs3_5))), (cell_later hb2 (cell_later hb1 (cell_later hb0 cBs4_5))), (cell_later hb2 (cell_later hb1 (cell_later hb0 cBp0_5))), (cell_later hb2 (cell_later hb1 (cell_later hb0 cBp1_5)))⟩)
                (first | (go_at_call 19; refine (store_conv s A cp w5.drew (HA.out.keep HB5.out.drew (Nat.le_refl _)) n9).mono ?_; rintro e w5_0 ⟨A2, cp2, rfl, hs2, hb0⟩; have hB0 := HB5.out.drew.trans (hb0.mono HB5.out.drew.size)) | (go_at_call 21; refine (plan_conv Ac Ak cc ck c k w5_0 n1 n2 (HC.out.keep hB0 (Nat.le_refl _)) (HK.out.keep hB0 (Nat.le_refl _)) c9 k9).mono ?_; rintro e w5_1 ⟨Ac2, Ak2, cc2, ck2, rfl, hc2, hk2, hb1⟩; have hB1 := hB0.trans (hb1.mono hB0.size); have hs3 := hs2.keep hb1 (Nat.le_refl _)) | (go_at_call 51; refine (HPP.out A2 cp2 Ac2 Ak2 cc2 ck2 w5_1 hs3 hc2 hk2).mono ?_; rintro e w6 ⟨rfl, hb2⟩; have hB2 := hB1.trans (hb2.mono hB1.size)))
              have hbR : Below w5.drew.heap.size w5.drew w6 := ((((hb0).trans (hb1.mono (hb0).size))).trans (hb2.mono (((hb0).trans (hb1.mono (hb0).size))).size))
              have HB6 := Lib.hid ((HB5.out.drew).trans (hbR.mono (HB5.out.drew).size))
              have NBs6 := Lib.hid ((hbR.block Bs (Array.getElem?_eq_some_iff.1 NBs5.out).1).trans NBs5.out)
              have NBp6 := Lib.hid ((hbR.block Bp (Array.getElem?_eq_some_iff.1 NBp5.out).1).trans NBp5.out)
              have FD6 := Lib.hid ((FD5.out.drew).keep hbR (Nat.le_refl _))
              have FK6 := Lib.hid ((FK5.out.drew).keep hbR (Nat.le_refl _))
              clear HB5 NBs5 NBp5 cBs0_5 cBs1_5 cBs2_5 cBs3_5 cBs4_5 cBp0_5 cBp1_5 FD5 FK5 hbR hb0 hB0 hb1 hB1 hb2 hB2 hs2 hc2 hk2 hs3
              obtain ⟨cBs0_6, cBs1_6, cBs2_6, cBs3_6, cBs4_6⟩ := cells5 NBs6.out
              obtain ⟨cBp0_6, cBp1_6⟩ := cells2 NBp6.out
              go_wp2_with fail
              go_region_held3 (fun X => X.cell? ⟨Bs, 0, none⟩ = some (.int .i64 s.cap) ∧ X.cell? ⟨Bs, 1, none⟩ = some (.int .i64 s.can) ∧ X.cell? ⟨Bs, 2, none⟩ = some (.int .i64 s.sl) ∧ X.cell? ⟨Bs, 3, none⟩ = some (.int .i64 s.sh) ∧ X.cell? ⟨Bs, 4, none⟩ = some (.slice A s.ns.length cp) ∧ X.cell? ⟨Bp, 0, none⟩ = some (.slice Ac c.length cc) ∧ X.cell? ⟨Bp, 1, none⟩ = some (.slice Ak k.length ck))
                (first | go_keep | exact ⟨(cell_later hb0 cBs0_6), (cell_later hb0 cBs1_6), (cell_later hb0 cBs2_6), (cell_later hb0 cBs3_6), (cell_later hb0 cBs4_6), (cell_later hb0 cBp0_6), (cell_later hb0 cBp1_6)⟩ | exact ⟨(cell_later hb1 (cell_later hb0 cBs0_6)), (cell_later hb1 (cell_later hb0 cBs1_6)), (cell_later hb1 (cell_later hb0 cBs2_6)), (cell_later hb1 (cell_later hb0 cBs3_6)), (cell_later hb1 (cell_later hb0 cBs4_6)), (cell_later hb1 (cell_later hb0 cBp0_6)), (cell_later hb1 (cell_later hb0 cBp1_6))⟩)
                (first | (go_at_call 29; refine (HLD.out w6.drew (HA.out.keep HB6.out.drew (Nat.le_refl _)) (HC.out.keep HB6.out.drew (Nat.le_refl _)) (HK.out.keep HB6.out.drew (Nat.le_refl _)) FD6.out.drew).mono ?_; rintro e w6_0 ⟨rfl, hb0⟩; have hB0 := HB6.out.drew.trans (hb0.mono HB6.out.drew.size)) | (go_at_call 24; refine (HPL2.out w6_0 (HA.out.keep hB0 (Nat.le_refl _)) (HC.out.keep hB0 (Nat.le_refl _)) (HK.out.keep hB0 (Nat.le_refl _))).mono ?_; rintro e w7 ⟨rfl, hb1⟩; have hB1 := hB0.trans (hb1.mono hB0.size)))
              have hbR : Below w6.drew.heap.size w6.drew w7 := ((hb0).trans (hb1.mono (hb0).size))
              have HB7 := Lib.hid ((HB6.out.drew).trans (hbR.mono (HB6.out.drew).size))
              have NBs7 := Lib.hid ((hbR.block Bs (Array.getElem?_eq_some_iff.1 NBs6.out).1).trans NBs6.out)
              have NBp7 := Lib.hid ((hbR.block Bp (Array.getElem?_eq_some_iff.1 NBp6.out).1).trans NBp6.out)
              have FD7 := Lib.hid ((FD6.out.drew).keep hbR (Nat.le_refl _))
              have FK7 := Lib.hid ((FK6.out.drew).keep hbR (Nat.le_refl _))
              clear HB6 NBs6 NBp6 cBs0_6 cBs1_6 cBs2_6 cBs3_6 cBs4_6 cBp0_6 cBp1_6 FD6 FK6 hbR hb0 hB0 hb1 hB1 
              obtain ⟨cBs0_7, cBs1_7, cBs2_7, cBs3_7, cBs4_7⟩ := cells5 NBs7.out
              obtain ⟨cBp0_7, cBp1_7⟩ := cells2 NBp7.out
              go_wp2_with fail
              refine (HRD.out w7 (HA.out.keep HB7.out (Nat.le_refl _)) (HC.out.keep HB7.out (Nat.le_refl _)) (HK.out.keep HB7.out (Nat.le_refl _))).mono ?_
              rintro e w8 ⟨Ar, cr, rfl, hrv, hb⟩
              have HB8 := Lib.hid ((HB7.out).trans (hb.mono (HB7.out).size))
              have NBs8 := Lib.hid ((hb.block Bs (Array.getElem?_eq_some_iff.1 NBs7.out).1).trans NBs7.out)
              have NBp8 := Lib.hid ((hb.block Bp (Array.getElem?_eq_some_iff.1 NBp7.out).1).trans NBp7.out)
              have FD8 := Lib.hid ((FD7.out).keep hb (Nat.le_refl _))
              have FK8 := Lib.hid ((FK7.out).keep hb (Nat.le_refl _))
              have FY8 := Lib.hid hrv
              clear HB7 NBs7 NBp7 cBs0_7 cBs1_7 cBs2_7 cBs3_7 cBs4_7 cBp0_7 cBp1_7 FD7 FK7 hrv hb 
              obtain ⟨cBs0_8, cBs1_8, cBs2_8, cBs3_8, cBs4_8⟩ := cells5 NBs8.out
              obtain ⟨cBp0_8, cBp1_8⟩ := cells2 NBp8.out
              have hsm := Lib.hid (same_any _ _ dk dk w8 FK8.out FY8.out hl7 hl7)
              rw [show decide (dk = dk) = true by simp] at hsm
              have hcmp := HCMP.out
              have hcmp2 := HCMP2.out
              go_wp2_with fail
              refine (hsm.out).mono ?_
              rintro e w9 ⟨rfl, hb⟩
              have HB9 := Lib.hid ((HB8.out).trans (hb.mono (HB8.out).size))
              have NBs9 := Lib.hid ((hb.block Bs (Array.getElem?_eq_some_iff.1 NBs8.out).1).trans NBs8.out)
              have NBp9 := Lib.hid ((hb.block Bp (Array.getElem?_eq_some_iff.1 NBp8.out).1).trans NBp8.out)
              have FD9 := Lib.hid ((FD8.out).keep hb (Nat.le_refl _))
              have FK9 := Lib.hid ((FK8.out).keep hb (Nat.le_refl _))
              have FY9 := Lib.hid ((FY8.out).keep hb (Nat.le_refl _))
              clear HB8 NBs8 NBp8 cBs0_8 cBs1_8 cBs2_8 cBs3_8 cBs4_8 cBp0_8 cBp1_8 FD8 FK8 FY8 hb hsm
              obtain ⟨cBs0_9, cBs1_9, cBs2_9, cBs3_9, cBs4_9⟩ := cells5 NBs9.out
              obtain ⟨cBp0_9, cBp1_9⟩ := cells2 NBp9.out
              go_wp2_with fail
              refine (HRO.out w9 (HA.out.keep HB9.out (Nat.le_refl _)) (HC.out.keep HB9.out (Nat.le_refl _)) (HK.out.keep HB9.out (Nat.le_refl _)) FD9.out).mono ?_
              rintro e w10 ⟨hb, ⟨_, rfl⟩ | ⟨h, _⟩⟩
              rotate_left
              · exact absurd h HXX.out
              have HB10 := Lib.hid ((HB9.out).trans (hb.mono (HB9.out).size))
              have NBs10 := Lib.hid ((hb.block Bs (Array.getElem?_eq_some_iff.1 NBs9.out).1).trans NBs9.out)
              have NBp10 := Lib.hid ((hb.block Bp (Array.getElem?_eq_some_iff.1 NBp9.out).1).trans NBp9.out)
              have FD10 := Lib.hid ((FD9.out).keep hb (Nat.le_refl _))
              have FK10 := Lib.hid ((FK9.out).keep hb (Nat.le_refl _))
              have FY10 := Lib.hid ((FY9.out).keep hb (Nat.le_refl _))
              clear HB9 NBs9 NBp9 cBs0_9 cBs1_9 cBs2_9 cBs3_9 cBs4_9 cBp0_9 cBp1_9 FD9 FK9 FY9 hb 
              obtain ⟨cBs0_10, cBs1_10, cBs2_10, cBs3_10, cBs4_10⟩ := cells5 NBs10.out
              obtain ⟨cBp0_10, cBp1_10⟩ := cells2 NBp10.out
              have HBF := Lib.hid HB10.out
              go_wp2_with fail
              go_loopw [17] (OLRel 0 w10) (fun i _ => 0 - (intOf i).toNat)
              case atStart => exact ⟨0, by omega, rfl, Below.refl _ _⟩
              case round =>
                obtain ⟨j, hj, rfl, hbe⟩ := hrel
                obtain rfl : j = 0 := by omega
                have HBG := Lib.hid (HBF.out.trans (hbe.mono HBF.out.size))
                clear hbe
                go_wp2_with fail
                refine (awake_any _).mono ?_
                rintro e wz ⟨rfl, hbz⟩
                go_wp2_with fail
                go_ret
                exact ⟨rfl, HBG.out.trans (hbz.mono HBG.out.size)⟩
            · have HXX := Lib.hid hx
              clear hx
              go_wp2_with fail
              go_region_held3 (fun X => X.cell? ⟨Bs, 0, none⟩ = some (.int .i64 s.cap) ∧ X.cell? ⟨Bs, 1, none⟩ = some (.int .i64 s.can) ∧ X.cell? ⟨Bs, 2, none⟩ = some (.int .i64 s.sl) ∧ X.cell? ⟨Bs, 3, none⟩ = some (.int .i64 s.sh) ∧ X.cell? ⟨Bs, 4, none⟩ = some (.slice A s.ns.length cp) ∧ X.cell? ⟨Bp, 0, none⟩ = some (.slice Ac c.length cc) ∧ X.cell? ⟨Bp, 1, none⟩ = some (.slice Ak k.length ck))
                (first | go_keep | exact ⟨(cell_later hb0 cBs0_3), (cell_later hb0 cBs1_3), (cell_later hb0 cBs2_3), (cell_later hb0 cBs3_3), (cell_later hb0 cBs4_3), (cell_later hb0 cBp0_3), (cell_later hb0 cBp1_3)⟩ | exact ⟨(cell_later hb1 (cell_later hb0 cBs0_3)), (cell_later hb1 (cell_later hb0 cBs1_3)), (cell_later hb1 (cell_later hb0 cBs2_3)), (cell_later hb1 (cell_later hb0 cBs3_3)), (cell_later hb1 (cell_later hb0 cBs4_3)), (cell_later hb1 (cell_later hb0 cBp0_3)), (cell_later hb1 (cell_later hb0 cBp1_3))⟩ | exact ⟨(cell_later hb2 (cell_later hb1 (cell_later hb0 cBs0_3))), (cell_later hb2 (cell_later hb1 (cell_later hb0 cBs1_3))), (cell_later hb2 (cell_later hb1 (cell_later hb0 cBs2_3))), (cell_later hb2 (cell_later hb1 (cell_later hb0 cBs3_3))), (cell_later hb2 (cell_later hb1 (cell_later hb0 cBs4_3))), (cell_later hb2 (cell_later hb1 (cell_later hb0 cBp0_3))), (cell_later hb2 (cell_later hb1 (cell_later hb0 cBp1_3)))⟩ | exact ⟨(cell_later hb3 (cell_later hb2 (cell_later hb1 (cell_later hb0 cBs0_3)))), (cell_later hb3 (cell_later hb2 (cell_later hb1 (cell_later hb0 cBs1_3)))), (cell_later hb3 (cell_later hb2 (cell_later hb1 (cell_later hb0 cBs2_3)))), (cell_later hb3 (cell_later hb2 (cell_later hb1 (cell_later hb0 cBs3_3)))), (cell_later hb3 (cell_later hb2 (cell_later hb1 (cell_later hb0 cBs4_3)))), (cell_later hb3 (cell_later hb2 (cell_later hb1 (cell_later hb0 cBp0_3)))), (cell_later hb3 (cell_later hb2 (cell_later hb1 (cell_later hb0 cBp1_3))))⟩)
                (first | (go_at_call 19; refine (store_conv s A cp w3.drew (HA.out.keep HB3.out.drew (Nat.le_refl _)) n9).mono ?_; rintro e w3_0 ⟨A2, cp2, rfl, hs2, hb0⟩; have hB0 := HB3.out.drew.trans (hb0.mono HB3.out.drew.size); have hf1 := (FD3.out.drew).keep hb0 (Nat.le_refl _)) | (go_at_call 21; refine (plan_conv Ac Ak cc ck c k w3_0 n1 n2 (HC.out.keep hB0 (Nat.le_refl _)) (HK.out.keep hB0 (Nat.le_refl _)) c9 k9).mono ?_; rintro e w3_1 ⟨Ac2, Ak2, cc2, ck2, rfl, hc2, hk2, hb1⟩; have hB1 := hB0.trans (hb1.mono hB0.size); have hs3 := hs2.keep hb1 (Nat.le_refl _); have hf2 := hf1.keep hb1 (Nat.le_refl _)) | (go_at_call 31; refine (dips_conv Ad cd dips w3_1 hf2 d9).mono ?_; rintro e w3_2 ⟨Ax, cx, rfl, hdx, hb2⟩; have hB2 := hB1.trans (hb2.mono hB1.size); have hs4 := hs3.keep hb2 (Nat.le_refl _); have hc3 := hc2.keep hb2 (Nat.le_refl _); have hk3 := hk2.keep hb2 (Nat.le_refl _)) | (go_at_call 45; refine (HCS.out A2 cp2 Ac2 Ak2 cc2 ck2 Ax cx w3_2 hs4 hc3 hk3 hdx HXX.out).mono ?_; rintro e w4 ⟨A1, c1, L, H, rfl, hr1, hra, hb3⟩; have hB3 := hB2.trans (hb3.mono hB2.size)))
              have hbR : Below w3.drew.heap.size w3.drew w4 := ((((((hb0).trans (hb1.mono (hb0).size))).trans (hb2.mono (((hb0).trans (hb1.mono (hb0).size))).size))).trans (hb3.mono (((((hb0).trans (hb1.mono (hb0).size))).trans (hb2.mono (((hb0).trans (hb1.mono (hb0).size))).size))).size))
              have HB4 := Lib.hid ((HB3.out.drew).trans (hbR.mono (HB3.out.drew).size))
              have NBs4 := Lib.hid ((hbR.block Bs (Array.getElem?_eq_some_iff.1 NBs3.out).1).trans NBs3.out)
              have NBp4 := Lib.hid ((hbR.block Bp (Array.getElem?_eq_some_iff.1 NBp3.out).1).trans NBp3.out)
              have FD4 := Lib.hid ((FD3.out.drew).keep hbR (Nat.le_refl _))
              have FR4 := Lib.hid hra
              clear HB3 NBs3 NBp3 cBs0_3 cBs1_3 cBs2_3 cBs3_3 cBs4_3 cBp0_3 cBp1_3 FD3 hra hbR hb0 hB0 hb1 hB1 hb2 hB2 hb3 hB3 hs2 hc2 hk2 hs3 hf1 hf2 hdx hs4 hc3 hk3
              obtain ⟨cBs0_4, cBs1_4, cBs2_4, cBs3_4, cBs4_4⟩ := cells5 NBs4.out
              obtain ⟨cBp0_4, cBp1_4⟩ := cells2 NBp4.out
              have HR1 := Lib.hid hr1
              clear hr1
              go_wp2_with fail
              go_region_held3 (fun X => X.cell? ⟨Bs, 0, none⟩ = some (.int .i64 s.cap) ∧ X.cell? ⟨Bs, 1, none⟩ = some (.int .i64 s.can) ∧ X.cell? ⟨Bs, 2, none⟩ = some (.int .i64 s.sl) ∧ X.cell? ⟨Bs, 3, none⟩ = some (.int .i64 s.sh) ∧ X.cell? ⟨Bs, 4, none⟩ = some (.slice A s.ns.length cp) ∧ X.cell? ⟨Bp, 0, none⟩ = some (.slice Ac c.length cc) ∧ X.cell? ⟨Bp, 1, none⟩ = some (.slice Ak k.length ck))
                (first | go_keep | exact ⟨(cell_later hb0 cBs0_4), (cell_later hb0 cBs1_4), (cell_later hb0 cBs2_4), (cell_later hb0 cBs3_4), (cell_later hb0 cBs4_4), (cell_later hb0 cBp0_4), (cell_later hb0 cBp1_4)⟩ | exact ⟨(cell_later hb1 (cell_later hb0 cBs0_4)), (cell_later hb1 (cell_later hb0 cBs1_4)), (cell_later hb1 (cell_later hb0 cBs2_4)), (cell_later hb1 (cell_later hb0 cBs3_4)), (cell_later hb1 (cell_later hb0 cBs4_4)), (cell_later hb1 (cell_later hb0 cBp0_4)), (cell_later hb1 (cell_later hb0 cBp1_4))⟩ | exact ⟨(cell_later hb2 (cell_later hb1 (cell_later hb0 cBs0_4))), (cell_later hb2 (cell_later hb1 (cell_later hb0 cBs1_4))), (cell_later hb2 (cell_later hb1 (cell_later hb0 cBs2_4))), (cell_later hb2 (cell_later hb1 (cell_later hb0 cBs3_4))), (cell_later hb2 (cell_later hb1 (cell_later hb0 cBs4_4))), (cell_later hb2 (cell_later hb1 (cell_later hb0 cBp0_4))), (cell_later hb2 (cell_later hb1 (cell_later hb0 cBp1_4)))⟩)
                (first | (go_at_call 19; refine (store_conv s A cp w4.drew (HA.out.keep HB4.out.drew (Nat.le_refl _)) n9).mono ?_; rintro e w4_0 ⟨A2, cp2, rfl, hs2, hb0⟩; have hB0 := HB4.out.drew.trans (hb0.mono HB4.out.drew.size)) | (go_at_call 21; refine (plan_conv Ac Ak cc ck c k w4_0 n1 n2 (HC.out.keep hB0 (Nat.le_refl _)) (HK.out.keep hB0 (Nat.le_refl _)) c9 k9).mono ?_; rintro e w4_1 ⟨Ac2, Ak2, cc2, ck2, rfl, hc2, hk2, hb1⟩; have hB1 := hB0.trans (hb1.mono hB0.size); have hs3 := hs2.keep hb1 (Nat.le_refl _)) | (go_at_call 46; refine (HDK.out A2 cp2 Ac2 Ak2 cc2 ck2 w4_1 hs3 hc2 hk2).mono ?_; rintro e w5 ⟨Dk, dkc, rfl, hdd, hb2⟩; have hB2 := hB1.trans (hb2.mono hB1.size)))
              have hbR : Below w4.drew.heap.size w4.drew w5 := ((((hb0).trans (hb1.mono (hb0).size))).trans (hb2.mono (((hb0).trans (hb1.mono (hb0).size))).size))
              have HB5 := Lib.hid ((HB4.out.drew).trans (hbR.mono (HB4.out.drew).size))
              have NBs5 := Lib.hid ((hbR.block Bs (Array.getElem?_eq_some_iff.1 NBs4.out).1).trans NBs4.out)
              have NBp5 := Lib.hid ((hbR.block Bp (Array.getElem?_eq_some_iff.1 NBp4.out).1).trans NBp4.out)
              have FD5 := Lib.hid ((FD4.out.drew).keep hbR (Nat.le_refl _))
              have FR5 := Lib.hid ((FR4.out.drew).keep hbR (Nat.le_refl _))
              have FK5 := Lib.hid hdd
              clear HB4 NBs4 NBp4 cBs0_4 cBs1_4 cBs2_4 cBs3_4 cBs4_4 cBp0_4 cBp1_4 FD4 FR4 hdd hbR hb0 hB0 hb1 hB1 hb2 hB2 hs2 hc2 hk2 hs3
              obtain ⟨cBs0_5, cBs1_5, cBs2_5, cBs3_5, cBs4_5⟩ := cells5 NBs5.out
              obtain ⟨cBp0_5, cBp1_5⟩ := cells2 NBp5.out
              go_wp2_with fail
              go_region_held3 (fun X => X.cell? ⟨Bs, 0, none⟩ = some (.int .i64 s.cap) ∧ X.cell? ⟨Bs, 1, none⟩ = some (.int .i64 s.can) ∧ X.cell? ⟨Bs, 2, none⟩ = some (.int .i64 s.sl) ∧ X.cell? ⟨Bs, 3, none⟩ = some (.int .i64 s.sh) ∧ X.cell? ⟨Bs, 4, none⟩ = some (.slice A s.ns.length cp) ∧ X.cell? ⟨Bp, 0, none⟩ = some (.slice Ac c.length cc) ∧ X.cell? ⟨Bp, 1, none⟩ = some (.slice Ak k.length ck))
                (first | go_keep | exact ⟨(cell_later hb0 cBs0_5), (cell_later hb0 cBs1_5), (cell_later hb0 cBs2_5), (cell_later hb0 cBs3_5), (cell_later hb0 cBs4_5), (cell_later hb0 cBp0_5), (cell_later hb0 cBp1_5)⟩ | exact ⟨(cell_later hb1 (cell_later hb0 cBs0_5)), (cell_later hb1 (cell_later hb0 cBs1_5)), (cell_later hb1 (cell_later hb0 cBs2_5)), (cell_later hb1 (cell_later hb0 cBs3_5)), (cell_later hb1 (cell_later hb0 cBs4_5)), (cell_later hb1 (cell_later hb0 cBp0_5)), (cell_later hb1 (cell_later hb0 cBp1_5))⟩ | exact ⟨(cell_later hb2 (cell_later hb1 (cell_later hb0 cBs0_5))), (cell_later hb2 (cell_later hb1 (cell_later hb0 cBs1_5))), (cell_later hb2 (cell_later hb1 (cell_later hb0 cBs2_5))), (cell_later hb2 (cell_later hb1 (cell_later hb0 cBs3_5))), (cell_later hb2 (cell_later hb1 (cell_later hb0 cBs4_5))), (cell_later hb2 (cell_later hb1 (cell_later hb0 cBp0_5))), (cell_later hb2 (cell_later hb1 (cell_later hb0 cBp1_5)))⟩)
                (first | (go_at_call 19; refine (store_conv s A cp w5.drew (HA.out.keep HB5.out.drew (Nat.le_refl _)) n9).mono ?_; rintro e w5_0 ⟨A2, cp2, rfl, hs2, hb0⟩; have hB0 := HB5.out.drew.trans (hb0.mono HB5.out.drew.size)) | (go_at_call 21; refine (plan_conv Ac Ak cc ck c k w5_0 n1 n2 (HC.out.keep hB0 (Nat.le_refl _)) (HK.out.keep hB0 (Nat.le_refl _)) c9 k9).mono ?_; rintro e w5_1 ⟨Ac2, Ak2, cc2, ck2, rfl, hc2, hk2, hb1⟩; have hB1 := hB0.trans (hb1.mono hB0.size); have hs3 := hs2.keep hb1 (Nat.le_refl _)) | (go_at_call 51; refine (HPP.out A2 cp2 Ac2 Ak2 cc2 ck2 w5_1 hs3 hc2 hk2).mono ?_; rintro e w6 ⟨rfl, hb2⟩; have hB2 := hB1.trans (hb2.mono hB1.size)))
              have hbR : Below w5.drew.heap.size w5.drew w6 := ((((hb0).trans (hb1.mono (hb0).size))).trans (hb2.mono (((hb0).trans (hb1.mono (hb0).size))).size))
              have HB6 := Lib.hid ((HB5.out.drew).trans (hbR.mono (HB5.out.drew).size))
              have NBs6 := Lib.hid ((hbR.block Bs (Array.getElem?_eq_some_iff.1 NBs5.out).1).trans NBs5.out)
              have NBp6 := Lib.hid ((hbR.block Bp (Array.getElem?_eq_some_iff.1 NBp5.out).1).trans NBp5.out)
              have FD6 := Lib.hid ((FD5.out.drew).keep hbR (Nat.le_refl _))
              have FR6 := Lib.hid ((FR5.out.drew).keep hbR (Nat.le_refl _))
              have FK6 := Lib.hid ((FK5.out.drew).keep hbR (Nat.le_refl _))
              clear HB5 NBs5 NBp5 cBs0_5 cBs1_5 cBs2_5 cBs3_5 cBs4_5 cBp0_5 cBp1_5 FD5 FR5 FK5 hbR hb0 hB0 hb1 hB1 hb2 hB2 hs2 hc2 hk2 hs3
              obtain ⟨cBs0_6, cBs1_6, cBs2_6, cBs3_6, cBs4_6⟩ := cells5 NBs6.out
              obtain ⟨cBp0_6, cBp1_6⟩ := cells2 NBp6.out
              go_wp2_with fail
              go_region_held3 (fun X => X.cell? ⟨Bs, 0, none⟩ = some (.int .i64 s.cap) ∧ X.cell? ⟨Bs, 1, none⟩ = some (.int .i64 s.can) ∧ X.cell? ⟨Bs, 2, none⟩ = some (.int .i64 s.sl) ∧ X.cell? ⟨Bs, 3, none⟩ = some (.int .i64 s.sh) ∧ X.cell? ⟨Bs, 4, none⟩ = some (.slice A s.ns.length cp) ∧ X.cell? ⟨Bp, 0, none⟩ = some (.slice Ac c.length cc) ∧ X.cell? ⟨Bp, 1, none⟩ = some (.slice Ak k.length ck))
                (first | go_keep | exact ⟨(cell_later hb0 cBs0_6), (cell_later hb0 cBs1_6), (cell_later hb0 cBs2_6), (cell_later hb0 cBs3_6), (cell_later hb0 cBs4_6), (cell_later hb0 cBp0_6), (cell_later hb0 cBp1_6)⟩ | exact ⟨(cell_later hb1 (cell_later hb0 cBs0_6)), (cell_later hb1 (cell_later hb0 cBs1_6)), (cell_later hb1 (cell_later hb0 cBs2_6)), (cell_later hb1 (cell_later hb0 cBs3_6)), (cell_later hb1 (cell_later hb0 cBs4_6)), (cell_later hb1 (cell_later hb0 cBp0_6)), (cell_later hb1 (cell_later hb0 cBp1_6))⟩)
                (first | (go_at_call 29; refine (HLD.out w6.drew (HA.out.keep HB6.out.drew (Nat.le_refl _)) (HC.out.keep HB6.out.drew (Nat.le_refl _)) (HK.out.keep HB6.out.drew (Nat.le_refl _)) FD6.out.drew).mono ?_; rintro e w6_0 ⟨rfl, hb0⟩; have hB0 := HB6.out.drew.trans (hb0.mono HB6.out.drew.size)) | (go_at_call 24; refine (HPL2.out w6_0 (HA.out.keep hB0 (Nat.le_refl _)) (HC.out.keep hB0 (Nat.le_refl _)) (HK.out.keep hB0 (Nat.le_refl _))).mono ?_; rintro e w7 ⟨rfl, hb1⟩; have hB1 := hB0.trans (hb1.mono hB0.size)))
              have hbR : Below w6.drew.heap.size w6.drew w7 := ((hb0).trans (hb1.mono (hb0).size))
              have HB7 := Lib.hid ((HB6.out.drew).trans (hbR.mono (HB6.out.drew).size))
              have NBs7 := Lib.hid ((hbR.block Bs (Array.getElem?_eq_some_iff.1 NBs6.out).1).trans NBs6.out)
              have NBp7 := Lib.hid ((hbR.block Bp (Array.getElem?_eq_some_iff.1 NBp6.out).1).trans NBp6.out)
              have FD7 := Lib.hid ((FD6.out.drew).keep hbR (Nat.le_refl _))
              have FR7 := Lib.hid ((FR6.out.drew).keep hbR (Nat.le_refl _))
              have FK7 := Lib.hid ((FK6.out.drew).keep hbR (Nat.le_refl _))
              clear HB6 NBs6 NBp6 cBs0_6 cBs1_6 cBs2_6 cBs3_6 cBs4_6 cBp0_6 cBp1_6 FD6 FR6 FK6 hbR hb0 hB0 hb1 hB1 
              obtain ⟨cBs0_7, cBs1_7, cBs2_7, cBs3_7, cBs4_7⟩ := cells5 NBs7.out
              obtain ⟨cBp0_7, cBp1_7⟩ := cells2 NBp7.out
              go_wp2_with fail
              refine (HRD.out w7 (HA.out.keep HB7.out (Nat.le_refl _)) (HC.out.keep HB7.out (Nat.le_refl _)) (HK.out.keep HB7.out (Nat.le_refl _))).mono ?_
              rintro e w8 ⟨Ar, cr, rfl, hrv, hb⟩
              have HB8 := Lib.hid ((HB7.out).trans (hb.mono (HB7.out).size))
              have NBs8 := Lib.hid ((hb.block Bs (Array.getElem?_eq_some_iff.1 NBs7.out).1).trans NBs7.out)
              have NBp8 := Lib.hid ((hb.block Bp (Array.getElem?_eq_some_iff.1 NBp7.out).1).trans NBp7.out)
              have FD8 := Lib.hid ((FD7.out).keep hb (Nat.le_refl _))
              have FR8 := Lib.hid ((FR7.out).keep hb (Nat.le_refl _))
              have FK8 := Lib.hid ((FK7.out).keep hb (Nat.le_refl _))
              have FY8 := Lib.hid hrv
              clear HB7 NBs7 NBp7 cBs0_7 cBs1_7 cBs2_7 cBs3_7 cBs4_7 cBp0_7 cBp1_7 FD7 FR7 FK7 hrv hb 
              obtain ⟨cBs0_8, cBs1_8, cBs2_8, cBs3_8, cBs4_8⟩ := cells5 NBs8.out
              obtain ⟨cBp0_8, cBp1_8⟩ := cells2 NBp8.out
              have hsm := Lib.hid (same_any _ _ dk dk w8 FK8.out FY8.out hl7 hl7)
              rw [show decide (dk = dk) = true by simp] at hsm
              have hcmp := HCMP.out
              have hcmp2 := HCMP2.out
              go_wp2_with fail
              refine (hsm.out).mono ?_
              rintro e w9 ⟨rfl, hb⟩
              have HB9 := Lib.hid ((HB8.out).trans (hb.mono (HB8.out).size))
              have NBs9 := Lib.hid ((hb.block Bs (Array.getElem?_eq_some_iff.1 NBs8.out).1).trans NBs8.out)
              have NBp9 := Lib.hid ((hb.block Bp (Array.getElem?_eq_some_iff.1 NBp8.out).1).trans NBp8.out)
              have FD9 := Lib.hid ((FD8.out).keep hb (Nat.le_refl _))
              have FR9 := Lib.hid ((FR8.out).keep hb (Nat.le_refl _))
              have FK9 := Lib.hid ((FK8.out).keep hb (Nat.le_refl _))
              have FY9 := Lib.hid ((FY8.out).keep hb (Nat.le_refl _))
              clear HB8 NBs8 NBp8 cBs0_8 cBs1_8 cBs2_8 cBs3_8 cBs4_8 cBp0_8 cBp1_8 FD8 FR8 FK8 FY8 hb hsm
              obtain ⟨cBs0_9, cBs1_9, cBs2_9, cBs3_9, cBs4_9⟩ := cells5 NBs9.out
              obtain ⟨cBp0_9, cBp1_9⟩ := cells2 NBp9.out
              go_wp2_with fail
              refine (HRO.out w9 (HA.out.keep HB9.out (Nat.le_refl _)) (HC.out.keep HB9.out (Nat.le_refl _)) (HK.out.keep HB9.out (Nat.le_refl _)) FD9.out).mono ?_
              rintro e w10 ⟨hb, ⟨h, _⟩ | ⟨_, A3, c3, L2, H2, rfl, hr2, hrb⟩⟩
              · exact absurd HXX.out h
              have HU := Lib.hid (fun i (hi : i < s.ns.length) => HR1.out.unique hr2 hi)
              clear hr2
              have HB10 := Lib.hid ((HB9.out).trans (hb.mono (HB9.out).size))
              have NBs10 := Lib.hid ((hb.block Bs (Array.getElem?_eq_some_iff.1 NBs9.out).1).trans NBs9.out)
              have NBp10 := Lib.hid ((hb.block Bp (Array.getElem?_eq_some_iff.1 NBp9.out).1).trans NBp9.out)
              have FD10 := Lib.hid ((FD9.out).keep hb (Nat.le_refl _))
              have FR10 := Lib.hid ((FR9.out).keep hb (Nat.le_refl _))
              have FK10 := Lib.hid ((FK9.out).keep hb (Nat.le_refl _))
              have FY10 := Lib.hid ((FY9.out).keep hb (Nat.le_refl _))
              have FQ10 := Lib.hid hrb
              clear HB9 NBs9 NBp9 cBs0_9 cBs1_9 cBs2_9 cBs3_9 cBs4_9 cBp0_9 cBp1_9 FD9 FR9 FK9 FY9 hrb hb 
              obtain ⟨cBs0_10, cBs1_10, cBs2_10, cBs3_10, cBs4_10⟩ := cells5 NBs10.out
              obtain ⟨cBp0_10, cBp1_10⟩ := cells2 NBp10.out
              have hnn : ((s.ns.length : Int) != (s.ns.length : Int)) = false := by simp
              have HBF := Lib.hid HB10.out
              go_wp2_with fail
              go_loopw [17] (OLRel s.ns.length w10) (fun i _ => s.ns.length - (intOf i).toNat)
              case atStart => exact ⟨0, by omega, rfl, Below.refl _ _⟩
              case round =>
                obtain ⟨j, hj, rfl, hbe⟩ := hrel
                have HX := Lib.hid hbe
                clear hbe
                by_cases hlt : j < s.ns.length
                · have hlt' : decide ((j : Int) < (s.ns.length : Int)) = true := by simpa using hlt
                  obtain ⟨b, o, rfl, a0, a1⟩ := (FR10.out.keep HX.out (Nat.le_refl _)).at_ hlt
                  obtain ⟨b', o', rfl, d0, d1⟩ := (FQ10.out.keep HX.out (Nat.le_refl _)).at_ hlt
                  obtain ⟨u1, u2⟩ := HU.out j hlt
                  rw [← u1] at d0
                  rw [← u2] at d1
                  generalize L j = lo at a0 d0
                  generalize H j = hi at a1 d1
                  have i3 : (0 : Int) ≤ (j : Int) := by omega
                  have i4 : (j : Int) < (s.ns.length : Int) := by omega
                  have heq := fun W => run_rng_eq lo hi W
                  clear u1 u2
                  go_wp2_with fail
                  go_region_held3 (fun X => X.cell? ⟨b, o + j * 2, none⟩ = some (.int .i64 lo) ∧ X.cell? ⟨b, o + j * 2 + 1, none⟩ = some (.int .i64 hi) ∧ X.cell? ⟨b', o' + j * 2, none⟩ = some (.int .i64 lo) ∧ X.cell? ⟨b', o' + j * 2 + 1, none⟩ = some (.int .i64 hi))
                    (first | go_keep | exact ⟨cell_later hb0 a0, cell_later hb0 a1, cell_later hb0 d0, cell_later hb0 d1⟩)
                    (first | (go_at_call 54; refine (conv_any lo hi wr.drew).mono ?_; rintro e v1 ⟨rfl, hb0⟩))
                  have HV1 := Lib.hid (HX.out.drew.trans (hb0.mono HX.out.drew.size))
                  clear a0 a1 d0 d1 hb0
                  go_wp2_with fail
                  go_roundw
                  case rel => exact ⟨j + 1, by omega, by go_num, HV1.out⟩
                  case measure => simp [intOf]; omega
                · have hlt' : decide ((j : Int) < (s.ns.length : Int)) = false := by simpa using hlt
                  have HBG := Lib.hid (HBF.out.trans (HX.out.mono HBF.out.size))
                  go_wp2_with fail
                  refine (awake_any _).mono ?_
                  rintro e wz ⟨rfl, hbz⟩
                  go_wp2_with fail
                  go_ret
                  exact ⟨rfl, HBG.out.trans (hbz.mono HBG.out.size)⟩
end Go.Proofs.Ytefhdcecbmgljaa

/-
  Package flash: the memory of the search for texts.
  The flashes' reference: Signs; Code.
  Package flash: the search for texts.
  Package flash: the search for texts, letter by letter.
-/
import Derived.Test.YtkloaeaepjoijaaT07
import Derived.Test.YtkloaeaepjoijaaT08
set_option linter.all false
namespace Go.Proofs.Ytkloaeaepjoijaa
section
open Go.RowKit Go.WalkArith
theorem own_of {W W' : World} {base e size n : Nat} {v : Value} {xs : List Value} (h : W.ownsRow base e size v n xs) (hb : ∀ g, v.ownBlock = some g → W'.heap[g]? = W.heap[g]?) : W'.ownsRow base e size v n xs := by
  obtain ⟨h1, ⟨rfl, h2⟩ | ⟨g, cap, cur, rfl, a1, a2, a3, a4, a5, a6⟩⟩ := h
  · exact ⟨h1, .inl ⟨rfl, h2⟩⟩
  · exact ⟨h1, .inr ⟨g, cap, cur, rfl, a1, (hb g rfl).trans a2, a3, a4, a5, a6⟩⟩
theorem ints_of {W W' : World} {g n cap : Nat} {xs : List Int} (h : IntsAt W (.slice (some ⟨g, 0, none⟩) n cap) xs) (hb : W'.heap[g]? = W.heap[g]?) : IntsAt W' (.slice (some ⟨g, 0, none⟩) n cap) xs := by
  obtain ⟨A, c, he, h⟩ := h
  cases he
  refine ⟨_, _, rfl, ?_⟩
  rcases h with h | ⟨b, o, he, hc⟩
  · exact .inl h
  · cases he
    exact .inr ⟨g, 0, rfl, fun i hi => (World.cell?_of_block (a := ⟨g, 0 + i, none⟩) hb).trans (hc i hi)⟩
theorem own_pop' {w : World} {base g cap : Nat} {t : List Nat} {x : Nat} (h : TxtAt w base (.slice (some ⟨g, 0, none⟩) (t.length + 1) cap) (t ++ [x])) : TxtAt w base (.slice (some ⟨g, 0, none⟩) t.length cap) t := by
  unfold TxtAt at h ⊢
  rw [show (t ++ [x]).length = t.length + 1 by simp, show (intsN (t ++ [x])).map (Value.int .i64) = (intsN t).map (Value.int .i64) ++ [.int .i64 (x : Int)] by simp [intsN]] at h
  exact own_pop h (by simp [intsN])
/-- An element of a row of texts: nothing, or a block that P allows. -/
def ElT (W : World) (P : Nat → Prop) (u : Value) (t : List Nat) : Prop :=
  (t = [] ∧ u = .slice none 0 0) ∨ ∃ g cap, u = .slice (some ⟨g, 0, none⟩) t.length cap ∧ g < W.heap.size ∧ P g ∧ IntsAt W (.slice (some ⟨g, 0, none⟩) t.length cap) (intsN t)
theorem ElT.of {W W' : World} {P Q : Nat → Prop} {u : Value} {t : List Nat} (h : ElT W P u t) (hb : ∀ g, g < W.heap.size → P g → W'.heap[g]? = W.heap[g]?) (hs : W.heap.size ≤ W'.heap.size) (hq : ∀ g, g < W.heap.size → P g → Q g) : ElT W' Q u t := by
  rcases h with h | ⟨g, cap, h1, h2, h3, h4⟩
  · exact .inl h
  · exact .inr ⟨g, cap, h1, Nat.lt_of_lt_of_le h2 hs, hq g h2 h3, ints_of h4 (hb g h2 h3)⟩
theorem ElT.ints {W : World} {P : Nat → Prop} {u : Value} {t : List Nat} (h : ElT W P u t) : IntsAt W u (intsN t) := by
  rcases h with ⟨rfl, rfl⟩ | ⟨g, cap, rfl, _, _, h⟩
  · exact IntsAt.nil W
  · exact h
theorem ElT.one {W : World} {P : Nat → Prop} {u : Value} {t : List Nat} (h : ElT W P u t) : u.oneCell' = true := by
  rcases h with ⟨_, rfl⟩ | ⟨g, cap, rfl, _⟩ <;> rfl
/-- A row of texts of the call's own. -/
def RowT (W : World) (base : Nat) (P : Nat → Prop) (v : Value) (ls : List (List Nat)) : Prop :=
  ∃ vs : List Value, vs.length = ls.length ∧ W.ownsRow base 25 1 v ls.length vs ∧ ∀ i (h : i < ls.length), ∃ u, vs[i]? = some u ∧ ElT W (fun g => P g ∧ v.ownBlock ≠ some g) u ls[i]
section
variable {W W' : World} {base : Nat} {P Q : Nat → Prop} {v : Value} {ls : List (List Nat)}
theorem RowT.nil : RowT W base P (.slice none 0 0) [] := ⟨[], rfl, World.ownsRow_nil _ _ _ _, fun i h => by simp at h⟩
theorem RowT.of (h : RowT W base P v ls) (hs : W.heap.size ≤ W'.heap.size) (hb : ∀ g, g < W.heap.size → P g ∨ v.ownBlock = some g → W'.heap[g]? = W.heap[g]?) (hq : ∀ g, g < W.heap.size → P g → Q g) : RowT W' base Q v ls := by
  obtain ⟨vs, h1, h2, h3⟩ := h
  refine ⟨vs, h1, own_of h2 (fun g hg => hb g (h2.lt g hg).2 (.inr hg)), fun i hi => ?_⟩
  obtain ⟨u, h4, h5⟩ := h3 i hi
  exact ⟨u, h4, h5.of (fun g hg hp => hb g hg (.inl hp.1)) hs (fun g hg hp => ⟨hq g hg hp.1, hp.2⟩)⟩
theorem RowT.lt (h : RowT W base P v ls) : ∀ k, v.ownBlock = some k → base ≤ k ∧ k < W.heap.size := by
  obtain ⟨vs, _, h2, _⟩ := h
  exact h2.lt
theorem RowT.slice (h : RowT W base P v ls) : ∃ A cap, v = .slice A ls.length cap := by
  obtain ⟨vs, _, h2, _⟩ := h
  rcases h2.2 with ⟨rfl, h0⟩ | ⟨g, cap, cur, rfl, _⟩
  · rw [h0]; exact ⟨_, _, rfl⟩
  · exact ⟨_, _, rfl⟩
end
theorem Try.info25 : (Try.prog.info? 25).map (fun i => (i.zero, i.size, i.bytes)) = some (some (.slice none 0 0), 1, 24) := by kernel_rfl
/-- What an append of texts leaves. -/
def AppR (W W' : World) (base : Nat) (P : Nat → Prop) (v : Value) (ls : List (List Nat)) (g n cap : Nat) : Prop :=
  RowT W' base P (.slice (some ⟨g, 0, none⟩) n cap) ls ∧ W.grownBy W' v.ownBlock ∧ (v.ownBlock = some g ∨ g = W.heap.size) ∧ g < W'.heap.size
theorem rowT_grown {W W' : World} {base : Nat} {P : Nat → Prop} {v : Value} {ls ms : List (List Nat)} {vs us : List Value} {g n cap : Nat} (h1 : vs.length = ls.length) (h2 : W.ownsRow base 25 1 v ls.length vs) (h3 : ∀ i (h : i < ls.length), ∃ u, vs[i]? = some u ∧ ElT W (fun g => P g ∧ v.ownBlock ≠ some g) u ls[i])
    (k1 : us.length = ms.length) (k3 : ∀ i (h : i < ms.length), ∃ u, us[i]? = some u ∧ ElT W (fun g => P g ∧ v.ownBlock ≠ some g) u ms[i])
    (a1 : W'.ownsRow base 25 1 (.slice (some ⟨g, 0, none⟩) n cap) n (vs ++ us)) (a2 : W.grownBy W' v.ownBlock) (a3 : v.ownBlock = some g ∨ g = W.heap.size) : RowT W' base P (.slice (some ⟨g, 0, none⟩) n cap) (ls ++ ms) := by
  have hn : n = (ls ++ ms).length := by
    have := a1.1
    rw [List.length_append, h1, k1] at this
    simp; omega
  subst hn
  have hel : ∀ u t, ElT W (fun g => P g ∧ v.ownBlock ≠ some g) u t → ElT W' (fun k => P k ∧ (Value.slice (some ⟨g, 0, none⟩) (ls ++ ms).length cap).ownBlock ≠ some k) u t := fun u t h => h.of (fun k hk hp => a2.block k hk (fun e => hp.2 e.symm)) a2.size (fun k hk hp => ⟨hp.1, fun e => by
    have e2 : g = k := by simpa [Value.ownBlock] using e
    rcases a3 with a3 | a3
    · exact hp.2 (by rw [a3, e2])
    · omega⟩)
  refine ⟨vs ++ us, by simp [h1, k1], a1, fun i hi => ?_⟩
  by_cases e : i < ls.length
  · obtain ⟨u, h4, h5⟩ := h3 i e
    refine ⟨u, by rw [List.getElem?_append_left (by omega)]; exact h4, ?_⟩
    rw [List.getElem_append_left e]
    exact hel _ _ h5
  · have hi' : i - ls.length < ms.length := by simp at hi; omega
    obtain ⟨u, h4, h5⟩ := k3 (i - ls.length) hi'
    refine ⟨u, by rw [List.getElem?_append_right (by omega), h1]; exact h4, ?_⟩
    rw [List.getElem_append_right (by omega)]
    exact hel _ _ h5
section
variable {w : World} {ops : Array Oper} {rest : List Oper} {o : Oper} {a : Act} {K : Act → World → Prop} {Q : Exit → Act → World → Prop} {E : Prop}
/-- A text is appended to a row of texts. -/
theorem step_app_row (hgd : o.guard = none) (s x : Operand) (ho : o.op = .call { callee := .builtin .append, args := #[s, x], argTypes := #[84, 84] }) (base : Nat) (P : Nat → Prop) (v : Value) (ls : List (List Nat)) (hs : a.eval s = v) (hown : RowT w base P v ls)
    (B : Nat) (u : Value) (t : List Nat) (hx : a.eval x = .slice (some ⟨B, 0, none⟩) 1 1) (hB : w.heap[B]? = some (.cells #[u] 25 (0, 0))) (hu : ElT w (fun g => P g ∧ v.ownBlock ≠ some g) u t) (hn : ls.length ≤ 1000000) (hbase : base ≤ w.heap.size)
    (h : ∀ g cap w', AppR w w' base P v (ls ++ [t]) g (ls.length + 1) cap → K (a.put o.dst (.slice (some ⟨g, 0, none⟩) (ls.length + 1) cap)) w') :
    if Region.wanted o (yielded ops a.tmps) = true then Oper.wp Try.prog o a w K Q else E := by
  obtain ⟨i0, hi0, hz0, hz1, hz2⟩ := info_parts Try.info25
  obtain ⟨vs, h1, h2, h3⟩ := hown
  refine step_append_lies w hgd s x 84 ho base 25 i0 (.slice none 0 0) 1 24 Try.underlying84 hi0 hz0 hz1 hz2 rfl (by decide) v ls.length vs hs h2 ⟨B, 0, none⟩ 1 1 [u] hx rfl (World.news_of_block (cs := #[u]) (t := 25) (fr := (0, 0)) hB) (by simpa using hu.one) (by omega) (by unfold maxLen; omega) (by omega) hbase _ rfl ?_
  intro g cap w' a1 a2 a3 a4
  exact h g cap w' ⟨rowT_grown h1 h2 h3 (us := [u]) (ms := [t]) rfl (fun i hi => by
    have : i = 0 := by simp at hi; exact hi
    subst this
    exact ⟨u, rfl, hu⟩) a1 a2 a3, a2, a3, a4⟩
end
/-- What the search works with: the row of texts behind the variable in block Bo, and the text at hand. -/
structure TEnv (W0 : World) (Bo : Nat) (W : World) (vo : Value) (ls : List (List Nat)) (vt : Value) (t : List Nat) (P : Nat → Prop) : Prop where
  os : W.os = W0.os
  tape : W.tape = W0.tape
  output : W.output = W0.output
  size : W0.heap.size ≤ W.heap.size
  same : ∀ k, k < W0.heap.size → k ≠ Bo → W.heap[k]? = W0.heap[k]?
  cell : W.heap[Bo]? = some (.cells #[vo] 84 (0, 0))
  own : RowT W W0.heap.size P vo ls
  txt : TxtAt W W0.heap.size vt t
  ap : ∀ k, vo.ownBlock = some k → vt.ownBlock ≠ some k
  pt : ∀ k, vt.ownBlock = some k → ¬ P k
  fresh : ∀ k, W.heap.size ≤ k → P k
  lo : Bo < W0.heap.size
  pb : ¬ P Bo
/-- What a part of the search leaves alone. -/
structure TFr (Bo : Nat) (W : World) (vo vt : Value) (W' : World) (vo' : Value) : Prop where
  size : W.heap.size ≤ W'.heap.size
  same : ∀ k, k < W.heap.size → k ≠ Bo → vo.ownBlock ≠ some k → vt.ownBlock ≠ some k → W'.heap[k]? = W.heap[k]?
  out : ∀ k, vo'.ownBlock = some k → vo.ownBlock = some k ∨ W.heap.size ≤ k
section
variable {W0 : World} {Bo : Nat} {W W' W1 W2 : World} {vo vo' vo2 : Value} {ls : List (List Nat)} {vt : Value} {t : List Nat} {P : Nat → Prop}
theorem TFr.of_below (hb : Below W.heap.size W W') : TFr Bo W vo vt W' vo := ⟨hb.size, fun k hk _ _ _ => hb.block k hk, fun k hk => .inl hk⟩
theorem TFr.refl : TFr Bo W vo vt W vo := ⟨Nat.le_refl _, fun _ _ _ _ _ => rfl, fun _ h => .inl h⟩
theorem TFr.trans (h : TFr Bo W vo vt W1 vo') (h' : TFr Bo W1 vo' vt W2 vo2) : TFr Bo W vo vt W2 vo2 := by
  refine ⟨Nat.le_trans h.size h'.size, fun k hk h1 h2 h3 => ?_, fun k hk => ?_⟩
  · refine (h'.same k (Nat.lt_of_lt_of_le hk h.size) h1 (fun e => ?_) h3).trans (h.same k hk h1 h2 h3)
    rcases h.out k e with e2 | e2
    · exact h2 e2
    · omega
  · rcases h'.out k hk with e | e
    · exact h.out k e
    · exact .inr (Nat.le_trans h.size e)
theorem TEnv.keep (h : TEnv W0 Bo W vo ls vt t P) (hb : Below W.heap.size W W') : TEnv W0 Bo W' vo ls vt t P := by
  have hlo := Nat.lt_of_lt_of_le h.lo h.size
  refine ⟨hb.os.trans h.os, hb.tape.trans h.tape, hb.output.trans h.output, Nat.le_trans h.size hb.size, fun k hk h1 => (hb.block k (Nat.lt_of_lt_of_le hk h.size)).trans (h.same k hk h1), (hb.block Bo hlo).trans h.cell, h.own.of hb.size (fun g hg _ => hb.block g hg) (fun _ _ h => h), own_of h.txt (fun g hg => hb.block g (h.txt.lt g hg).2), h.ap, h.pt, fun k hk => h.fresh k (Nat.le_trans hb.size hk), h.lo, h.pb⟩
theorem TEnv.child (h : TEnv W0 Bo W vo ls vt t P) {n g cap' : Nat} (hA : AppT W W1 W0.heap.size vt t n g cap') : TEnv W0 Bo W1 vo ls (.slice (some ⟨g, 0, none⟩) (t.length + 1) cap') (t ++ [n]) (fun k => P k ∧ k ≠ g) := by
  obtain ⟨a1, a2, a3⟩ := hA
  have hg0 : W0.heap.size ≤ g := (a1.lt g rfl).1
  have hlo := h.lo
  have hsz := h.size
  have hgrow : ∃ row, W.grownBy W1 row ∧ ∀ k, k < W.heap.size → k ≠ g → some k ≠ row := by
    rcases a3 with ⟨a3, a4⟩ | ⟨a3, a4⟩
    · exact ⟨none, a3, fun k _ _ e => by cases e⟩
    · exact ⟨some g, a4, fun k _ hk e => hk (by cases e; rfl)⟩
  obtain ⟨row, hgr, hrow⟩ := hgrow
  have hblk : ∀ k, k < W.heap.size → k ≠ g → W1.heap[k]? = W.heap[k]? := fun k hk hne => hgr.block k hk (hrow k hk hne)
  have hPg : g < W.heap.size → ¬ P g := fun hlt => by
    rcases a3 with ⟨_, a4⟩ | ⟨a3, _⟩
    · omega
    · exact h.pt g (by rw [a3]; rfl)
  have hog : g < W.heap.size → vo.ownBlock ≠ some g := fun hlt e => by
    rcases a3 with ⟨_, a4⟩ | ⟨a3, _⟩
    · omega
    · exact h.ap g e (by rw [a3]; rfl)
  refine ⟨hgr.os.trans h.os, hgr.tape.trans h.tape, hgr.output.trans h.output, Nat.le_trans h.size hgr.size, fun k hk h1 => (hblk k (by omega) (by omega)).trans (h.same k hk h1), (hblk Bo (by omega) (by omega)).trans h.cell, h.own.of hgr.size (fun k hk hp => hblk k hk (fun e => ?_)) (fun k hk hp => ⟨hp, fun e => hPg (e ▸ hk) (e ▸ hp)⟩), a1, fun k hk e => ?_, fun k hk hp => ?_, fun k hk => ⟨h.fresh k (Nat.le_trans hgr.size hk), by omega⟩, h.lo, fun hp => h.pb hp.1⟩
  · subst e
    rcases hp with hp | hp
    · exact hPg hk hp
    · exact hog hk hp
  · have e2 : g = k := by simpa [Value.ownBlock] using e
    subst e2
    exact hog (h.own.lt g hk).2 hk
  · have e2 : g = k := by simpa [Value.ownBlock] using hk
    exact hp.2 e2.symm
theorem TEnv.back (h : TEnv W0 Bo W vo ls vt t P) {n g cap' : Nat} {ls' : List (List Nat)} (hA : AppT W W1 W0.heap.size vt t n g cap') (hB : Below W1.heap.size W1 W2)
    (hC : TEnv W0 Bo W' vo' ls' (.slice (some ⟨g, 0, none⟩) (t.length + 1) cap') (t ++ [n]) (fun k => P k ∧ k ≠ g)) (hF : TFr Bo W2 vo (.slice (some ⟨g, 0, none⟩) (t.length + 1) cap') W' vo') :
    TEnv W0 Bo W' vo' ls' vt t P ∧ TFr Bo W vo vt W' vo' := by
  obtain ⟨a1, a2, a3⟩ := hA
  have hg0 : W0.heap.size ≤ g := (a1.lt g rfl).1
  have hlo := h.lo
  have hsz := h.size
  have hgrow : ∃ row, W.grownBy W1 row ∧ ∀ k, k < W.heap.size → k ≠ g → some k ≠ row := by
    rcases a3 with ⟨a3, a4⟩ | ⟨a3, a4⟩
    · exact ⟨none, a3, fun k _ _ e => by cases e⟩
    · exact ⟨some g, a4, fun k _ hk e => hk (by cases e; rfl)⟩
  obtain ⟨row, hgr, hrow⟩ := hgrow
  have hs1 := hgr.size
  have hs2 := hB.size
  have hs3 := hF.size
  have hblk : ∀ k, k < W.heap.size → k ≠ g → k ≠ Bo → vo.ownBlock ≠ some k → W'.heap[k]? = W.heap[k]? := fun k hk hne h1 h2 =>
    (hF.same k (by omega) h1 h2 (fun e => hne (by simpa [Value.ownBlock] using e.symm))).trans ((hB.block k (by omega)).trans (hgr.block k hk (hrow k hk hne)))
  have htl : ∀ k, vt.ownBlock = some k → W0.heap.size ≤ k ∧ k < W.heap.size := h.txt.lt
  have htxt : TxtAt W' W0.heap.size vt t := by
    rcases a3 with ⟨a3, a4⟩ | ⟨a3, a4⟩
    · refine own_of h.txt (fun k hk => hblk k (htl k hk).2 (by have := (htl k hk).2; omega) (by have := (htl k hk).1; omega) (fun e => h.ap k e hk))
    · rw [a3]
      exact own_pop' hC.txt
  have hout : ∀ k, vo'.ownBlock = some k → vo.ownBlock = some k ∨ W.heap.size ≤ k := fun k hk => by
    rcases hF.out k hk with e | e
    · exact .inl e
    · exact .inr (by omega)
  have hvg : ∀ k, k < W.heap.size → vt.ownBlock ≠ some k → k ≠ g := fun k hk hne e => by
    rcases a3 with ⟨a3, a4⟩ | ⟨a3, a4⟩
    · omega
    · rw [a3] at hne; exact hne (by rw [e]; rfl)
  refine ⟨⟨hC.os, hC.tape, hC.output, hC.size, hC.same, hC.cell, hC.own.of (Nat.le_refl _) (fun _ _ _ => rfl) (fun k _ hp => hp.1), htxt, fun k hk e => ?_, h.pt, fun k hk => h.fresh k (by omega), h.lo, h.pb⟩, ⟨by omega, fun k hk h1 h2 h3 => hblk k hk (hvg k hk h3) h1 h2, hout⟩⟩
  rcases hout k hk with e2 | e2
  · exact h.ap k e2 e
  · have := (htl k e).2; omega
theorem TEnv.add (h : TEnv W0 Bo W vo ls vt t P) {g n cap : Nat} {ls' : List (List Nat)} (hA : AppR W W1 W0.heap.size P vo ls' g n cap) :
    W1.heap[Bo]? = some (.cells #[vo] 84 (0, 0)) ∧ TEnv W0 Bo (W1.setCell ⟨Bo, 0, none⟩ (.slice (some ⟨g, 0, none⟩) n cap)) (.slice (some ⟨g, 0, none⟩) n cap) ls' vt t P ∧ TFr Bo W vo vt (W1.setCell ⟨Bo, 0, none⟩ (.slice (some ⟨g, 0, none⟩) n cap)) (.slice (some ⟨g, 0, none⟩) n cap) := by
  obtain ⟨a1, a2, a3, a4⟩ := hA
  have hlo := h.lo
  have hsz := h.size
  have hs1 := a2.size
  have hbo : W1.heap[Bo]? = some (.cells #[vo] 84 (0, 0)) := (a2.block Bo (by omega) (fun e => by have := (h.own.lt Bo e.symm).1; omega)).trans h.cell
  have hs : ∀ j, j ≠ Bo → (W1.setCell ⟨Bo, 0, none⟩ (.slice (some ⟨g, 0, none⟩) n cap)).heap[j]? = W1.heap[j]? := fun j hj => Below.heap_setCell _ _ _ _ hj
  have hz : (W1.setCell ⟨Bo, 0, none⟩ (.slice (some ⟨g, 0, none⟩) n cap)).heap.size = W1.heap.size := by simp
  have hblk : ∀ k, k < W.heap.size → k ≠ Bo → vo.ownBlock ≠ some k → (W1.setCell ⟨Bo, 0, none⟩ (.slice (some ⟨g, 0, none⟩) n cap)).heap[k]? = W.heap[k]? := fun k hk h1 h2 => (hs k h1).trans (a2.block k hk (fun e => h2 e.symm))
  have hg0 : W0.heap.size ≤ g := (a1.lt g rfl).1
  have htl : ∀ k, vt.ownBlock = some k → W0.heap.size ≤ k ∧ k < W.heap.size := h.txt.lt
  have hel : ∀ k, k < W1.heap.size → P k ∨ (Value.slice (some ⟨g, 0, none⟩) n cap).ownBlock = some k → k ≠ Bo := fun k _ hp e => by
    subst e
    rcases hp with hp | hp
    · exact h.pb hp
    · have e2 : g = k := by simpa [Value.ownBlock] using hp
      omega
  refine ⟨hbo, ⟨a2.os.trans h.os, a2.tape.trans h.tape, a2.output.trans h.output, by rw [hz]; omega, fun k hk h1 => (hblk k (by omega) h1 (fun e => by have := (h.own.lt k e).1; omega)).trans (h.same k hk h1), ?_, a1.of (by rw [hz]; exact Nat.le_refl _) (fun k hk hp => hs k (hel k hk hp)) (fun _ _ h => h), own_of h.txt (fun k hk => hblk k (htl k hk).2 (by have := (htl k hk).1; omega) (fun e => h.ap k e hk)), fun k hk e => ?_, h.pt, fun k hk => h.fresh k (by rw [hz] at hk; omega), h.lo, h.pb⟩, ⟨by rw [hz]; omega, fun k hk h1 h2 _ => hblk k hk h1 h2, fun k hk => ?_⟩⟩
  · simp [World.setCell, Array.getElem?_modify, hbo]
  · have e2 : g = k := by simpa [Value.ownBlock] using hk
    subst e2
    rcases a3 with a3 | a3
    · exact h.ap g a3 e
    · have := (htl g e).2; omega
  · have e2 : g = k := by simpa [Value.ownBlock] using hk
    subst e2
    rcases a3 with a3 | a3
    · exact .inl a3
    · exact .inr (by omega)
end
end
end Go.Proofs.Ytkloaeaepjoijaa
namespace Go.Proofs.Ytkloaeaepjoijaa
section
open Go.RowKit Go.WalkArith
theorem nl_mk (a : Array UInt8) : nl ⟨a⟩ = a.toList.map UInt8.toNat := by unfold nl; rw [ByteArray.toList_eq]
/-- The letters' bytes. -/
def cl (cs : List ByteArray) : List (List Nat) := cs.map nl
theorem cl_len (cs : List ByteArray) : (cl cs).length = cs.length := List.length_map _
theorem cl_get {cs : List ByteArray} {n : Nat} (h : n < cs.length) : (cl cs).getD n [] = nl cs[n] := by simp [cl, h]
def SgRel (cs : List ByteArray) (t : List Nat) (w1 : World) (out i : Value) (wr : World) : Prop :=
  ∃ (k : Nat) (S : ByteArray), k ≤ t.length ∧ i = .int .i64 k ∧ out = .string S ∧ nl S = sgT (cl cs) [] (t.take k) ∧ Below w1.heap.size w1 wr
def SgPost (cs : List ByteArray) (t : List Nat) (w : World) (e : Ending) (w' : World) : Prop :=
  ∃ S : ByteArray, e = .returned (.string S) ∧ nl S = sgT (cl cs) [] t ∧ Below w.heap.size w w'
set_option maxRecDepth 100000 in
set_option maxHeartbeats 2000000 in
theorem signs_any (A : Option Addr) (cap : Nat) (cs : List ByteArray) (v : Value) (t : List Nat) (w : World) (hA : StrsAt w A cs) (hc6 : cs.length ≤ 6) (hc4 : ∀ c ∈ cs, c.size ≤ 4) (hv : IntsAt w v (intsN t)) (ht : ∀ x ∈ t, x < cs.length) (hl : t.length ≤ 5) :
    Calls Try.prog 54 #[.agg #[.slice A cs.length cap], v] w (SgPost cs t w) := by
  obtain ⟨Av, cv, rfl⟩ := hv.sliceN
  have hB : Below w.heap.size w (w.alloc (.cells #[.slice A cs.length cap] 77)) := (Below.refl _ _).alloc (Nat.le_refl _) _
  have hN := Go.heap_alloc_new w (.cells #[.slice A cs.length cap] 77)
  have HB := Lib.hid hB
  have HV := Lib.hid (hv.keep hB (Nat.le_refl _))
  have HA := Lib.hid (hA.keep hB (Nat.le_refl _))
  have HT := Lib.hid ht
  have HN := Lib.hid hN
  have HC4 := Lib.hid hc4
  clear hB hv ht hN hA hc4
  go_enter Try.func54, Try.ntmps54
  go_wp2_with fail
  generalize w.alloc (.cells #[.slice A cs.length cap] 77) = w1 at HB HV HN HA ⊢
  obtain ⟨Bc, hBc⟩ : ∃ B, w.heap.size = B := ⟨_, rfl⟩
  rw [hBc] at HN ⊢
  clear hBc
  go_loopw [5, 6] (SgRel cs t w1) (fun _ i _ => t.length - (intOf i).toNat)
  case atStart => exact ⟨0, ⟨#[]⟩, by omega, rfl, rfl, by rw [List.take_zero, nl_mk]; rfl, Below.refl _ _⟩
  case round =>
    obtain ⟨k, S, hk, rfl, rfl, hS, hbe⟩ := hrel
    have HBE := Lib.hid hbe
    have c0 : wr.cell? ⟨Bc, 0, none⟩ = some (.slice A cs.length cap) := cell_later hbe (by simp [World.cell?, HN.out])
    have hSl : S.size ≤ 25 := by
      have h1 := congrArg List.length hS
      rw [nl_len] at h1
      have h2 := sgT_len (cs := cl cs) (fun c hc => by
        obtain ⟨s, hs, rfl⟩ := List.mem_map.1 hc
        rw [nl_len]; exact HC4.out s hs) (t.take k) []
      have h3 := List.length_take_le k t
      omega
    have HS := Lib.hid hS
    clear hS
    by_cases hlt : k < t.length
    · have hlt' : decide ((k : Int) < (t.length : Int)) = true := by simpa using hlt
      obtain ⟨b, o, cv', he, hc⟩ := HV.out.atN hlt
      cases he
      have c1 := cell_later hbe hc
      have hx := HT.out t[k] (List.getElem_mem hlt)
      have hsn := sgT_snoc (cl cs) t[k] (t.take k) []
      rw [List.nil_append, ← List.take_succ_eq_append_getElem hlt] at hsn
      obtain ⟨x, hx2⟩ : ∃ x, t[k] = x := ⟨_, rfl⟩
      rw [hx2] at c1 hx hsn
      obtain ⟨bs, os, rfl, hs⟩ := HA.out.at hx
      have c2 := cell_later hbe hs
      have hss := HC4.out cs[x] (List.getElem_mem hx)
      have hcg := cl_get hx
      obtain ⟨s, hse⟩ : ∃ s, cs[x] = s := ⟨_, rfl⟩
      rw [hse] at c2 hss hcg
      have i1 : (0 : Int) ≤ (k : Int) := by omega
      have i2 : (k : Int) < (t.length : Int) := by omega
      have i3 : (0 : Int) ≤ (x : Int) := by omega
      have i4 : (x : Int) < (cs.length : Int) := by omega
      clear hbe hc hx2 hs hse
      have s1 : ¬ (9223372036854775807 < S.size + s.size) := by omega
      have s2 : ¬ (9223372036854775807 < (S ++ ⟨#[32]⟩).size + s.size) := by
        rw [show (S ++ ⟨#[32]⟩).size = S.size + 1 by rw [← nl_len, nl_app, List.length_append, nl_len, nl_mk]; rfl]; omega
      have s3 : ¬ (9223372036854775807 < S.size + 1 + s.size) := by omega
      by_cases hk0 : k = 0
      · subst hk0
        rw [Nat.add_zero] at c1
        have hsg : sg1 (cl cs) (t.take 0) x = nl s := by unfold sg1; rw [List.take_zero, if_pos rfl, hcg]
        rw [hsg] at hsn
        have HSN := Lib.hid hsn
        clear hsn hsg hcg
        go_wp2_with fail
        go_region_held3 (fun X => X.cell? ⟨Bc, 0, none⟩ = some (.slice (some ⟨bs, os, none⟩) cs.length cap) ∧ X.cell? ⟨b, o, none⟩ = some (.int .i64 (x : Int)) ∧ X.cell? ⟨bs, os + x, none⟩ = some (.string s)) (go_keep) (fail)
        go_wp2_with fail
        go_roundw
        case rel => exact ⟨1, S ++ s, by omega, by go_num, rfl, by rw [nl_app, HS.out]; exact HSN.out.symm, HBE.out.drew⟩
        case measure => simp [intOf]; omega
      · have hk0' : decide ((0 : Int) < (k : Int)) = true := by simp; omega
        have htk : t.take k ≠ [] := fun e => by
          have := congrArg List.length e
          rw [List.length_take, Nat.min_eq_left hk] at this
          simp at this; omega
        have hsg : sg1 (cl cs) (t.take k) x = 32 :: nl s := by unfold sg1; rw [if_neg htk, hcg]
        rw [hsg] at hsn
        have HSN := Lib.hid hsn
        clear hsn hsg hcg htk
        go_wp2_with fail
        go_region_held3 (fun X => X.cell? ⟨Bc, 0, none⟩ = some (.slice (some ⟨bs, os, none⟩) cs.length cap) ∧ X.cell? ⟨b, o + k, none⟩ = some (.int .i64 (x : Int)) ∧ X.cell? ⟨bs, os + x, none⟩ = some (.string s)) (go_keep) (fail)
        go_wp2_with fail
        go_roundw
        case rel => exact ⟨k + 1, (S ++ ⟨#[32]⟩) ++ s, by omega, by go_num, rfl, by rw [nl_app, nl_app, HS.out, List.append_assoc, nl_mk]; exact HSN.out.symm, HBE.out.drew⟩
        case measure => simp [intOf]; omega
    · have hlt' : decide ((k : Int) < (t.length : Int)) = false := by simpa using hlt
      have hkl : k = t.length := by omega
      have HKL := Lib.hid hkl
      clear hbe hkl
      go_wp2_with fail
      go_ret
      exact ⟨S, rfl, by rw [HS.out, HKL.out, List.take_length], HB.out.trans (HBE.out.mono HB.out.size)⟩
theorem Try.info9 : (Try.prog.info? 9).map (fun i => (i.zero, i.size, i.bytes)) = some (some (.string ⟨#[]⟩), 1, 16) := by kernel_rfl
theorem StrsAt.of_own {W : World} {base : Nat} {v : Value} {n : Nat} {cs : List ByteArray} (h : W.ownsRow base 9 1 v n (cs.map Value.string)) : ∃ A cap, v = .slice A n cap ∧ StrsAt W A cs ∧ n ≤ cap := by
  have hl : cs.length = n := by have := h.1; simpa using this
  subst hl
  rcases h.2 with ⟨rfl, h0⟩ | ⟨g, cap, cur, rfl, h1, h2, h3, h4, h5, h6⟩
  · have : cs = [] := List.length_eq_zero_iff.1 h0
    subst this
    exact ⟨_, _, rfl, .inl rfl, Nat.le_refl _⟩
  · refine ⟨_, cap, rfl, .inr ⟨g, 0, rfl, fun i hi => ?_⟩, h3⟩
    have hc : cur[i]? = some (.string cs[i]) := by
      have h7 : (cur.toList.take (cs.length * 1))[i]? = (cs.map Value.string)[i]? := by rw [h6]
      rw [List.getElem?_take_of_lt (by omega)] at h7
      rw [List.getElem?_map, List.getElem?_eq_getElem hi] at h7
      simpa using h7
    simp [World.cell?, h2, hc]
theorem strs_cells {W : World} {b o : Nat} {cs : List ByteArray} (h : ∀ i (h : i < cs.length), W.cell? ⟨b, o + i, none⟩ = some (.string cs[i])) : ∀ j u, (cs.map Value.string)[j]? = some u → W.cell? ((⟨b, o, none⟩ : Addr).add j) = some u := by
  intro j u hj
  rw [List.getElem?_map] at hj
  cases e : cs[j]? with
  | none => rw [e] at hj; cases hj
  | some s =>
    rw [e] at hj
    obtain ⟨hj2, rfl⟩ := List.getElem?_eq_some_iff.1 e
    have := h j hj2
    simp only [Option.map_some, Option.some.injEq] at hj
    rw [← hj]
    unfold Addr.add
    by_cases h0 : j = 0
    · subst h0; simpa using this
    · simpa [h0] using this
set_option maxRecDepth 100000 in
set_option maxHeartbeats 1000000 in
theorem codeConv_any (A : Option Addr) (cap : Nat) (cs : List ByteArray) (w : World) (hA : StrsAt w A cs) (hn : cs.length ≤ 9) (hp : 0 < cs.length) :
    Calls Try.prog 56 #[.agg #[.slice A cs.length cap]] w fun e w' => ∃ A' cap', e = .returned (.agg #[.slice A' cs.length cap']) ∧ StrsAt w' A' cs ∧ cs.length ≤ cap' ∧ Below w.heap.size w w' := by
  obtain ⟨b, o, rfl, hc⟩ := hA.resolve_left (fun h => by rw [h] at hp; simp at hp)
  obtain ⟨i0, hi0, hz0, hz1, hz2⟩ := info_parts Try.info9
  obtain ⟨W2, hW2⟩ : ∃ W, (w.alloc (.cells #[.slice (some ⟨b, o, none⟩) cs.length cap] 77)).alloc (.cells #[.slice none 0 0] 87) = W := ⟨_, rfl⟩
  have hB2 : Below w.heap.size w W2 := by rw [← hW2]; exact ((Below.refl _ _).alloc (Nat.le_refl _) _).alloc (by simp) _
  have hsz2 : W2.heap.size = w.heap.size + 1 + 1 := by rw [← hW2]; simp
  have hb1 : W2.heap[w.heap.size + 1]? = some (.cells #[.slice none 0 0] 87 (0, 0)) := by rw [← hW2]; exact heap_new_at _ _ _ (by simp)
  have hb0 : W2.heap[w.heap.size]? = some (.cells #[.slice (some ⟨b, o, none⟩) cs.length cap] 77 (0, 0)) := by rw [← hW2, Below.heap_alloc _ _ _ (by simp)]; exact heap_new_at _ _ _ rfl
  have HC := Lib.hid (fun j u hj => show ((W2.alloc (.cells #[] 9)).cell? ((⟨b, o, none⟩ : Addr).add j) = some u) from by
    have h := strs_cells hc j u hj
    have hB3 : Below w.heap.size w (W2.alloc (.cells #[] 9)) := hB2.alloc (by omega) _
    rw [hB3.cell (World.block_lt_of_cell? w _ h)]; exact h)
  have hm := World.ownsRow_made (base := w.heap.size + 1 + 1) (e := 9) (size := 1) W2 #[] 0 (by omega) (by decide) rfl
  rw [hsz2] at hm
  have HM := Lib.hid hm
  have c0 : (W2.alloc (.cells #[] 9)).cell? ⟨w.heap.size, 0, none⟩ = some (.slice (some ⟨b, o, none⟩) cs.length cap) := by
    rw [World.cell?_of_block (a := ⟨w.heap.size, 0, none⟩) (Below.heap_alloc _ _ _ (by show w.heap.size < _; omega))]; simp [World.cell?, hb0]
  have HB1 := Lib.hid hb1
  have HB2 := Lib.hid hB2
  have HSZ := Lib.hid hsz2
  clear hc hB2 hb0 hb1 hsz2 hA hm
  subst hW2
  go_enter Try.func56, Try.ntmps56
  go_wp2_with (at_builtin; refine wpList_append_own _ rfl _ _ 75 rfl (w.heap.size + 1 + 1) 9 i0 (.string ⟨#[]⟩) 1 16 Try.underlying75 hi0 hz0 hz1 hz2 rfl (by decide) _ 0 [] rfl HM.out ⟨b, o, none⟩ cs.length cap (cs.map Value.string) rfl ?c1 HC.out ?c2 ?c3 ?c4 ?c5 ?_)
  case c1 => simp
  case c2 => intro u hu; obtain ⟨s, _, rfl⟩ := List.mem_map.1 hu; rfl
  case c3 => unfold maxLen; omega
  case c4 => omega
  case c5 => simp
  intro v' w1 hown hgrow _
  obtain ⟨A', cap', rfl, hst, hcap⟩ := StrsAt.of_own hown
  have hk1 : w1.heap[w.heap.size + 1]? = some (.cells #[.slice none 0 0] 87 (0, 0)) := by
    rw [hgrow.block _ (by simp) (by simp [Value.ownBlock]), Below.heap_alloc _ _ _ (by simp)]; exact HB1.out
  have hBw : Below w.heap.size w w1 := by
    refine (HB2.out.alloc (by simp; omega) (.cells #[] 9)).grown hgrow (by simp; omega) (fun k hk => ?_)
    simp [Value.ownBlock] at hk; omega
  have d1 : w1.cell? ⟨w.heap.size + 1, 0, none⟩ = some (.slice none 0 0) := by simp [World.cell?, hk1]
  have z1 : w1.frozen? ⟨w.heap.size + 1, 0, none⟩ = false := by simp [World.frozen?, hk1]
  have hst2 : StrsAt (w1.setCell ⟨w.heap.size + 1, 0, none⟩ (.slice A' cs.length cap')) A' cs := by
    rcases hst with h | ⟨b2, o2, rfl, hd⟩
    · exact .inl h
    · have hlt := hown.lt b2 rfl
      refine .inr ⟨b2, o2, rfl, fun i hi => ?_⟩
      rw [World.cell?_of_block (a := ⟨b2, o2 + i, none⟩) (Below.heap_setCell _ _ _ _ (by show b2 ≠ w.heap.size + 1; omega))]
      exact hd i hi
  have DZ := Lib.hid (show (w1.setCell ⟨w.heap.size + 1, 0, none⟩ (.slice A' cs.length cap')).cell? ⟨w.heap.size + 1, 0, none⟩ = some (.slice A' cs.length cap') by simp [World.setCell, World.cell?, Array.getElem?_modify, hk1])
  have HST := Lib.hid hst2
  have HBF := Lib.hid (show Below w.heap.size w (w1.setCell ⟨w.heap.size + 1, 0, none⟩ (.slice A' cs.length cap')) from hBw.setCell (by simp) _)
  clear hown hgrow hst hst2 hBw hk1
  go_wp2_with fail
  exact bodyPost_ret (v := .agg #[.slice A' cs.length cap']) (by simp [results, Try.results56, go_sem, DZ.out]) rfl ⟨A', cap', rfl, HST.out, hcap, HBF.out⟩
end
end Go.Proofs.Ytkloaeaepjoijaa
namespace Go.Proofs.Ytkloaeaepjoijaa
section
open Go.RowKit Go.WalkArith
/-- What the search has captured. -/
structure TCap (W0 : World) (Bt Bl Bo Bf : Nat) (A : Option Addr) (cap : Nat) (cs : List ByteArray) (rd : ByteArray) (er : Int) (m : Nat) : Prop where
  tir : TirAt W0 Bt A cs.length cap rd er
  len : W0.heap[Bl]? = some (.cells #[.int .i64 (m : Int)] 3 (0, 0))
  fn : W0.heap[Bf]? = some (.cells #[.func (.func 112) #[] #[.pointer (some ⟨Bt, 0, none⟩), .pointer (some ⟨Bl, 0, none⟩), .pointer (some ⟨Bo, 0, none⟩), .pointer (some ⟨Bf, 0, none⟩)]] 162 (0, 0))
  n1 : Bt ≠ Bo
  n2 : Bl ≠ Bo
  n3 : Bf ≠ Bo
  strs : ∀ X : World, (∀ k, k < W0.heap.size → k ≠ Bo → X.heap[k]? = W0.heap[k]?) → StrsAt X A cs
theorem TCap.cells {W0 W : World} {Bt Bl Bo Bf : Nat} {A : Option Addr} {cap : Nat} {cs : List ByteArray} {rd : ByteArray} {er : Int} {m : Nat} (h : TCap W0 Bt Bl Bo Bf A cap cs rd er m) (hs : ∀ k, k < W0.heap.size → k ≠ Bo → W.heap[k]? = W0.heap[k]?) :
    W.cell? ⟨Bt, 0, none⟩ = some (.slice A cs.length cap) ∧ W.cell? ⟨Bt, 1, none⟩ = some (.string rd) ∧ W.cell? ⟨Bt, 2, none⟩ = some (.int .i64 er) ∧ W.cell? ⟨Bl, 0, none⟩ = some (.int .i64 (m : Int)) ∧ W.cell? ⟨Bf, 0, none⟩ = some (.func (.func 112) #[] #[.pointer (some ⟨Bt, 0, none⟩), .pointer (some ⟨Bl, 0, none⟩), .pointer (some ⟨Bo, 0, none⟩), .pointer (some ⟨Bf, 0, none⟩)]) := by
  have h1 := (hs Bt (Array.getElem?_eq_some_iff.1 (show W0.heap[Bt]? = _ from h.tir)).1 h.n1).trans h.tir
  have h2 := (hs Bl (Array.getElem?_eq_some_iff.1 h.len).1 h.n2).trans h.len
  have h3 := (hs Bf (Array.getElem?_eq_some_iff.1 h.fn).1 h.n3).trans h.fn
  refine ⟨?_, ?_, ?_, ?_, ?_⟩
  · simp only [World.cell?, h1]; rfl
  · simp only [World.cell?, h1]; rfl
  · simp only [World.cell?, h1]; rfl
  · simp only [World.cell?, h2]; rfl
  · simp only [World.cell?, h3]; rfl
def TPost (W0 : World) (Bo : Nat) (W : World) (vo : Value) (ls : List (List Nat)) (vt : Value) (t : List Nat) (P : Nat → Prop) (new : List (List Nat)) (e : Ending) (W' : World) : Prop :=
  e = .returned (.tuple #[]) ∧ ∃ vo', TEnv W0 Bo W' vo' (ls ++ new) vt t P ∧ TFr Bo W vo vt W' vo'
def TxRel (W0 : World) (Bo : Nat) (W : World) (vo : Value) (ls : List (List Nat)) (vt : Value) (t : List Nat) (P : Nat → Prop) (n : Nat) (f : Nat → List (List Nat)) (i : Value) (wr : World) : Prop :=
  ∃ k : Nat, k ≤ n ∧ i = .int .i64 k ∧ ∃ vo', TEnv W0 Bo wr vo' (ls ++ f k) vt t P ∧ TFr Bo W vo vt wr vo'
theorem clone_any (vt : Value) (t : List Nat) (base : Nat) (w : World) (h : TxtAt w base vt t) (hn : t = [] → vt = .slice none 0 0) (hl : t.length ≤ 1000) :
    Calls Try.prog 114 #[vt] w fun e w' => ∃ uA uN uC, e = .returned (.slice uA uN uC) ∧ ElT w' (fun g => w.heap.size ≤ g) (.slice uA uN uC) t ∧ Below w.heap.size w w' := by
  by_cases e : t = []
  · rw [hn e]
    refine (clone_nil w).mono ?_
    rintro e' w' ⟨rfl, rfl⟩
    exact ⟨_, _, _, rfl, .inl ⟨e, rfl⟩, Below.refl _ _⟩
  · rcases h.nilOr with ⟨h1, _⟩ | ⟨g, cap, rfl⟩
    · exact absurd h1 e
    · refine (clone_some g cap t w h.ints (List.length_pos_iff.2 e) hl).mono ?_
      rintro e' w' ⟨g', cap', rfl, h1, h2, h3, h4⟩
      exact ⟨_, _, _, rfl, .inr ⟨g', cap', rfl, h2, h1, h3⟩, h4⟩
theorem TxtAt.len {W : World} {base : Nat} {v : Value} {t : List Nat} (h : TxtAt W base v t) : ∃ A cap, v = .slice A t.length cap := h.ints.sliceN
set_option maxRecDepth 100000 in
set_option maxHeartbeats 4000000 in
theorem texts_hop (W0 : World) (Bt Bl Bo Bf : Nat) (A : Option Addr) (cap : Nat) (cs : List ByteArray) (rd : ByteArray) (er : Int) (m : Nat) (hcp : TCap W0 Bt Bl Bo Bf A cap cs rd er m) (hl : rd.size ≤ 40) (he : 0 ≤ er) (hm : m ≤ 5) (q : Nat) (t a : List Nat) (cr : Array Value) (vo vt : Value) (ls : List (List Nat)) (P : Nat → Prop) (W : World) (htn : t = [] → vt = .slice none 0 0) (hcr : RowV cr (rowR (nl rd) a)) (hh : hopB (nl rd) er (rowR (nl rd) a) = true) (hE : TEnv W0 Bo W vo ls vt t P) :
    Calls Try.prog 112 #[vt, .agg cr, .pointer (some ⟨Bt, 0, none⟩), .pointer (some ⟨Bl, 0, none⟩), .pointer (some ⟨Bo, 0, none⟩), .pointer (some ⟨Bf, 0, none⟩)] W (TPost W0 Bo W vo ls vt t P (txL (cl cs) (nl rd) er q t a)) := by
  have HX := Lib.hid (txL_hop (cl cs) (nl rd) er q t a hh)
  have HH := Lib.hid hh
  clear hh
  obtain ⟨At, ct, rfl⟩ := hE.txt.len
  have hbx : Below W.heap.size W (W.alloc (.cells cr 164)) := (Below.refl _ _).alloc (Nat.le_refl _) _
  have hnx := Go.heap_alloc_new W (.cells cr 164)
  have hE1 := hE.keep hbx
  have hF1 : TFr Bo W vo (.slice At t.length ct) (W.alloc (.cells cr 164)) vo := TFr.of_below hbx
  have hlt1 : W.heap.size < (W.alloc (.cells cr 164)).heap.size := by simp
  have HCP := Lib.hid hcp
  have HCR := Lib.hid hcr
  have HTN := Lib.hid htn
  clear hE hcp hcr htn hbx
  go_enter Try.func112, Try.ntmps112
  go_upto_region 1 with fail
  generalize W.alloc (.cells cr 164) = w1 at hE1 hF1 hnx hlt1 ⊢
  obtain ⟨Br, hBr⟩ : ∃ B, W.heap.size = B := ⟨_, rfl⟩
  rw [hBr] at hnx hlt1 ⊢
  have HBR := Lib.hid hBr
  obtain ⟨c0, c1, c2, c3, c4⟩ := HCP.out.cells hE1.same
  have HC := Lib.hid (HCP.out.cells hE1.same)
  have HRB := Lib.hid hnx
  have HE1 := Lib.hid hE1
  have HF1 := Lib.hid hF1
  clear hE1 hF1 hnx hBr
  have HHOP := Lib.hid (hopeless_any rd A cs.length cap er cr _ w1 hl HCR.out he)
  rw [HH.out] at HHOP
  clear HH
  go_wp2_with (refine wpList_load_row rfl 164 _ rfl _ rfl 164 cr _ _ HRB.out Try.underlying164 rfl HCR.out.info ?_)
  refine HHOP.out.mono ?_
  rintro e w2 ⟨rfl, hb⟩
  have hfin : TPost W0 Bo W vo ls (.slice At t.length ct) t P (txL (cl cs) (nl rd) er q t a) (.returned (.tuple #[])) w2 := by
    rw [HX.out]
    exact ⟨rfl, vo, by rw [List.append_nil]; exact HE1.out.keep hb, HF1.out.trans (TFr.of_below hb)⟩
  have HFIN := Lib.hid hfin
  clear hfin hb c0 c1 c2 c3 c4 HHOP
  go_wp2_with fail
  go_end0
  exact HFIN.out
set_option maxRecDepth 100000 in
set_option maxHeartbeats 4000000 in
theorem texts_zero (W0 : World) (Bt Bl Bo Bf : Nat) (A : Option Addr) (cap : Nat) (cs : List ByteArray) (rd : ByteArray) (er : Int) (m : Nat) (hcp : TCap W0 Bt Bl Bo Bf A cap cs rd er m) (hl : rd.size ≤ 40) (he : 0 ≤ er) (hm : m ≤ 5) (t a : List Nat) (cr : Array Value) (vo vt : Value) (ls : List (List Nat)) (P : Nat → Prop) (W : World) (htn : t = [] → vt = .slice none 0 0) (htm : t.length = m) (hll : ls.length ≤ 1000000) (hcr : RowV cr (rowR (nl rd) a)) (hh : hopB (nl rd) er (rowR (nl rd) a) = false) (hE : TEnv W0 Bo W vo ls vt t P) :
    Calls Try.prog 112 #[vt, .agg cr, .pointer (some ⟨Bt, 0, none⟩), .pointer (some ⟨Bl, 0, none⟩), .pointer (some ⟨Bo, 0, none⟩), .pointer (some ⟨Bf, 0, none⟩)] W (TPost W0 Bo W vo ls vt t P (txL (cl cs) (nl rd) er 0 t a)) := by
  have HX := Lib.hid (txL_zero (cl cs) (nl rd) er t a hh)
  have HH := Lib.hid hh
  have hml : ((t.length : Int) == (m : Int)) = true := by simp [htm]
  have ht5 : t.length ≤ 5 := by omega
  have HTM := Lib.hid htm
  clear hh htm
  obtain ⟨At, ct, rfl⟩ := hE.txt.len
  have hbx : Below W.heap.size W (W.alloc (.cells cr 164)) := (Below.refl _ _).alloc (Nat.le_refl _) _
  have hnx := Go.heap_alloc_new W (.cells cr 164)
  have hE1 := hE.keep hbx
  have hF1 : TFr Bo W vo (.slice At t.length ct) (W.alloc (.cells cr 164)) vo := TFr.of_below hbx
  have hlt1 : W.heap.size < (W.alloc (.cells cr 164)).heap.size := by simp
  have HCP := Lib.hid hcp
  have HCR := Lib.hid hcr
  have HTN := Lib.hid htn
  clear hE hcp hcr htn hbx
  go_enter Try.func112, Try.ntmps112
  go_upto_region 1 with fail
  generalize W.alloc (.cells cr 164) = w1 at hE1 hF1 hnx hlt1 ⊢
  obtain ⟨Br, hBr⟩ : ∃ B, W.heap.size = B := ⟨_, rfl⟩
  rw [hBr] at hnx hlt1 ⊢
  have HBR := Lib.hid hBr
  obtain ⟨c0, c1, c2, c3, c4⟩ := HCP.out.cells hE1.same
  have HC := Lib.hid (HCP.out.cells hE1.same)
  have HRB := Lib.hid hnx
  have HE1 := Lib.hid hE1
  have HF1 := Lib.hid hF1
  clear hE1 hF1 hnx hBr
  have HHOP := Lib.hid (hopeless_any rd A cs.length cap er cr _ w1 hl HCR.out he)
  rw [HH.out] at HHOP
  clear HH
  go_wp2_with (refine wpList_load_row rfl 164 _ rfl _ rfl 164 cr _ _ HRB.out Try.underlying164 rfl HCR.out.info ?_)
  refine HHOP.out.mono ?_
  rintro e w2 ⟨rfl, hb⟩
  have d1 := cell_later hb c1
  have d2 := cell_later hb c2
  have d3 := cell_later hb c3
  have hrb := (hb.block Br hlt1).trans HRB.out
  have d5 : w2.cell? ⟨Br, rd.size, none⟩ = some (.int .i64 (rowR (nl rd) a rd.size)) := by simp only [World.cell?, hrb]; simpa using HCR.out.2 rd.size (by omega)
  obtain ⟨x, hx⟩ : ∃ x, rowR (nl rd) a rd.size = x := ⟨_, rfl⟩
  rw [hx] at d5
  have HXV := Lib.hid hx
  have HE2 := Lib.hid (HE1.out.keep hb)
  have HF2 := Lib.hid (HF1.out.trans (TFr.of_below hb))
  have HNL := Lib.hid (nl_len rd)
  have i0 : (0 : Int) ≤ (rd.size : Int) := by omega
  have i1 : (rd.size : Int) < 41 := by omega
  clear hb hrb hx c0 c1 c2 c3 c4 HHOP HE1 HF1 HRB
  by_cases hxe : x ≤ er
  · have hxe' : decide (x ≤ er) = true := by simpa using hxe
    have hnew : txL (cl cs) (nl rd) er 0 t a = [t] := by rw [HX.out, HNL.out, HXV.out, if_pos hxe]
    have HNEW := Lib.hid hnew
    clear hnew hxe
    go_upto_region 3 with fail
    go_region_held3 (fun X => X.cell? ⟨Bt, 1, none⟩ = some (.string rd) ∧ X.cell? ⟨Bt, 2, none⟩ = some (.int .i64 er) ∧ X.cell? ⟨Br, rd.size, none⟩ = some (.int .i64 x)) (go_keep) (fail)
    clear d1 d2 d3 d5
    have hE3 := HE2.out.keep ((Below.refl _ w2).drew)
    have hF3 := HF2.out.trans (TFr.of_below (vt := .slice At t.length ct) ((Below.refl _ w2).drew))
    go_upto_region 4 with fail
    generalize w2.drew = w3 at hE3 hF3 ⊢
    have HE3 := Lib.hid hE3
    have HF3 := Lib.hid hF3
    have c6 : w3.cell? ⟨Bo, 0, none⟩ = some vo := by simp only [World.cell?, HE3.out.cell]; rfl
    clear hE3 hF3
    refine wp_region_T [5] (S := fun X => X.cell? ⟨Bo, 0, none⟩ = some vo) (by kernel_rfl) (c6) (fun hS0 => ?_)
    refine wpAnyT_take (i := 0) (oi := { dst := some 25, op := Op.load 84 (Operand.tmp 4), type := 84, pos := "texts.go:84", after := #[], guard := none }) (v := ?_) rfl (by kernel_rfl) (by kernel_rfl) (by kernel_rfl) (by kernel_rfl) (fun _ _ _ h => h) (Or.inl ⟨by rfl, ?_⟩) hS0 ?_
    rotate_left
    · intro X hX
      obtain x0 := hX
      go_simp
      try with_reducible rfl
    simp only [Act.put, List.setIfInBounds_toArray, List.set_cons_zero, List.set_cons_succ, Array.toArray_toList]
    refine wpAnyT_take (i := 1) (oi := { dst := some 26, op := Op.move (Operand.tmp 0), type := 25, pos := "texts.go:84", after := #[], guard := none }) (v := ?_) rfl (by kernel_rfl) (by kernel_rfl) (by kernel_rfl) (by kernel_rfl) (fun _ _ _ h => h) (Or.inl ⟨by rfl, ?_⟩) hS0 ?_
    rotate_left
    · intro X hX
      obtain x0 := hX
      go_simp
      try with_reducible rfl
    simp only [Act.put, List.setIfInBounds_toArray, List.set_cons_zero, List.set_cons_succ, Array.toArray_toList]
    refine wpAnyT_one (i := 2) (o := { dst := some 27, op := Op.call { callee := Callee.value (Operand.func 114), args := #[Operand.tmp 26], argTypes := #[25] }, type := 25, pos := "texts.go:84", after := #[{ on := 1, ground := Ground.data }], guard := none }) (by kernel_rfl) rfl (fun K hK => ?_)
    go_simp
    refine (clone_any _ t W0.heap.size _ (HE3.out.keep ((Below.refl _ w3).drew)).txt HTN.out (by omega)).mono ?_
    rintro e w4 ⟨uA, uN, uC, rfl, hu, hb⟩
    have hb4 : Below w3.heap.size w3 w4 := (Below.refl _ w3).drew.trans hb
    have HE4 := Lib.hid (HE3.out.keep hb4)
    have HU4 := Lib.hid (show ElT w4 (fun g => w3.heap.size ≤ g) (.slice uA uN uC) t from hu)
    have HF4 := Lib.hid (HF3.out.trans (TFr.of_below (vt := .slice At t.length ct) hb4))
    have HS4 := Lib.hid hb4.size
    clear hu hb hb4
    have c7 : w4.cell? ⟨Bo, 0, none⟩ = some vo := by simp only [World.cell?, HE4.out.cell]; rfl
    go_wp2_with fail
    refine hK.out _ _ (fun _ => c7) (fun hS1q => ?_)
    have hS1 := hS1q rfl
    clear hS1q hS0 hK K
    refine wpAnyT_one (i := 3) (o := { dst := some 28, op := Op.buildSlice 84 1 #[(0, Operand.tmp 27)], type := 84, pos := "texts.go:84", after := #[{ on := 2, ground := Ground.data }], guard := none }) (by kernel_rfl) rfl (fun K hK => ?_)
    go_simp
    have hb5 : Below w4.heap.size w4 (w4.alloc (.cells #[.slice uA uN uC] 25)) := (Below.refl _ _).alloc (Nat.le_refl _) _
    have hn5 := Go.heap_alloc_new w4 (.cells #[.slice uA uN uC] 25)
    have HE5 := Lib.hid (HE4.out.keep hb5)
    have HF5 := Lib.hid (HF4.out.trans (TFr.of_below (vt := .slice At t.length ct) hb5))
    have HU5 := Lib.hid (HU4.out.of (W' := w4.alloc (.cells #[.slice uA uN uC] 25)) (Q := fun g => P g ∧ vo.ownBlock ≠ some g) (fun g hg _ => hb5.block g hg) hb5.size (fun g hg h1 => ⟨HE3.out.fresh g h1, fun e => by have := (HE3.out.own.lt g e).2; omega⟩))
    have c8 : (w4.alloc (.cells #[.slice uA uN uC] 25)).cell? ⟨Bo, 0, none⟩ = some vo := by simp only [World.cell?, HE5.out.cell]; rfl
    obtain ⟨B5, hB5⟩ : ∃ B, w4.heap.size = B := ⟨_, rfl⟩
    rw [hB5] at hn5 ⊢
    clear hB5 hb5
    generalize w4.alloc (.cells #[.slice uA uN uC] 25) = w5 at HE5 HF5 HU5 c8 hn5 ⊢
    have HN5 := Lib.hid hn5
    clear hn5 c7
    refine hK.out _ _ (fun _ => c8) (fun hS2q => ?_)
    have hS2 := hS2q rfl
    clear hS2q hS1 hK K
    refine wpAnyT_one (i := 4) (o := { dst := some 29, op := Op.call { callee := Callee.builtin Builtin.append, args := #[Operand.tmp 25, Operand.tmp 28], argTypes := #[84, 84] }, type := 84, pos := "texts.go:84", after := #[{ on := 0, ground := Ground.data }, { on := 3, ground := Ground.data }, { on := 2, ground := Ground.chain }], guard := none }) (by kernel_rfl) rfl (fun K hK => ?_)
    refine step_app_row (by rfl) _ _ (by rfl) W0.heap.size P vo ls (by rfl) HE5.out.own B5 (.slice uA uN uC) t (by rfl) HN5.out HU5.out hll HE5.out.size ?_
    intro g6 cap6 w6 hA
    obtain ⟨hbo, hE6, hF6⟩ := HE5.out.add hA
    have HE6 := Lib.hid hE6
    have HF6 := Lib.hid (HF5.out.trans hF6)
    have c9 : w6.cell? ⟨Bo, 0, none⟩ = some vo := by simp only [World.cell?, hbo]; rfl
    have z9 : w6.frozen? ⟨Bo, 0, none⟩ = false := by simp [World.frozen?, hbo]
    clear hA hbo hE6 hF6 c8
    refine hK.out _ _ (fun _ => c9) (fun hS3q => ?_)
    have hS3 := hS3q rfl
    clear hS3q hS2 hK K
    simp only [Act.put, List.setIfInBounds_toArray, List.set_cons_zero, List.set_cons_succ, Array.toArray_toList]
    refine wpAnyT_one (i := 5) (o := { dst := none, op := Op.store 84 (Operand.tmp 4) (Operand.tmp 29), type := 0, pos := "texts.go:84", after := #[{ on := 4, ground := Ground.data }, { on := 4, ground := Ground.chain }, { on := 0, ground := Ground.phase }, { on := 1, ground := Ground.phase }, { on := 2, ground := Ground.phase }, { on := 3, ground := Ground.phase }, { on := 4, ground := Ground.phase }], guard := none }) (by kernel_rfl) rfl (fun K hK => ?_)
    go_simp
    refine hK.out _ _ (fun h => absurd h (by decide)) (fun _ => ?_)
    clear hK K
    refine wpAnyT_done (by kernel_rfl) ?_ _
    clear hS3
    have hfin : TPost W0 Bo W vo ls (.slice At t.length ct) t P (txL (cl cs) (nl rd) er 0 t a) (.returned (.tuple #[])) (w6.setCell ⟨Bo, 0, none⟩ (.slice (some ⟨g6, 0, none⟩) (ls.length + 1) cap6)) := by
      rw [HNEW.out]
      exact ⟨rfl, _, HE6.out, HF6.out⟩
    have HFIN := Lib.hid hfin
    clear hfin c9 z9 c6
    go_wp2_with fail
    go_end0
    exact HFIN.out
  · have hxe' : decide (x ≤ er) = false := by simpa using hxe
    have hnew : txL (cl cs) (nl rd) er 0 t a = [] := by rw [HX.out, HNL.out, HXV.out, if_neg hxe]
    have HNEW := Lib.hid hnew
    clear hnew hxe
    go_upto_region 3 with fail
    go_region_held3 (fun X => X.cell? ⟨Bt, 1, none⟩ = some (.string rd) ∧ X.cell? ⟨Bt, 2, none⟩ = some (.int .i64 er) ∧ X.cell? ⟨Br, rd.size, none⟩ = some (.int .i64 x)) (go_keep) (fail)
    have hfin : TPost W0 Bo W vo ls (.slice At t.length ct) t P (txL (cl cs) (nl rd) er 0 t a) (.returned (.tuple #[])) w2.drew := by
      rw [HNEW.out]
      exact ⟨rfl, vo, by rw [List.append_nil]; exact HE2.out.keep ((Below.refl _ w2).drew), HF2.out.trans (TFr.of_below ((Below.refl _ w2).drew))⟩
    have HFIN := Lib.hid hfin
    clear hfin
    go_wp2_with fail
    go_end0
    exact HFIN.out
end
end Go.Proofs.Ytkloaeaepjoijaa
namespace Go.Proofs.Ytkloaeaepjoijaa
section
open Go.RowKit Go.WalkArith
/-- A block of the call's own that neither the text nor the row of texts is stays as it is. -/
theorem app_far {W W1 W0 : World} {Bo : Nat} {vo vt : Value} {ls : List (List Nat)} {t : List Nat} {P : Nat → Prop} {n g cap' Br : Nat} (hA : AppT W W1 W0.heap.size vt t n g cap') (hE : TEnv W0 Bo W vo ls vt t P) (hr : ∀ k, vt.ownBlock = some k → k ≠ Br) (hl : Br < W.heap.size) : W1.heap[Br]? = W.heap[Br]? := by
  obtain ⟨_, _, ⟨a3, a4⟩ | ⟨a3, a4⟩⟩ := hA
  · exact a3.block Br hl (fun e => by cases e)
  · exact a4.block Br hl (fun e => hr g (by rw [a3]; rfl) (by cases e; rfl))
set_option maxRecDepth 100000 in
set_option maxHeartbeats 8000000 in
theorem texts1_any (W0 : World) (Bt Bl Bo Bf : Nat) (A : Option Addr) (cap : Nat) (cs : List ByteArray) (rd : ByteArray) (er : Int) (m : Nat) (hcp : TCap W0 Bt Bl Bo Bf A cap cs rd er m) (hl : rd.size ≤ 40) (he : 0 ≤ er) (hm : m ≤ 5) (hc6 : cs.length ≤ 6) (hc4 : ∀ c ∈ cs, c.size ≤ 4) : ∀ (q : Nat) (t a : List Nat) (cr : Array Value) (vo vt : Value) (ls : List (List Nat)) (P : Nat → Prop) (W : World), (t = [] → vt = .slice none 0 0) → (t = [] → a = []) → t.length + q = m → ls.length + 6 ^ q ≤ 1000000 → RowV cr (rowR (nl rd) a) → TEnv W0 Bo W vo ls vt t P →
    Calls Try.prog 112 #[vt, .agg cr, .pointer (some ⟨Bt, 0, none⟩), .pointer (some ⟨Bl, 0, none⟩), .pointer (some ⟨Bo, 0, none⟩), .pointer (some ⟨Bf, 0, none⟩)] W (TPost W0 Bo W vo ls vt t P (txL (cl cs) (nl rd) er q t a)) := by
  intro q
  induction q with
  | zero =>
    intro t a cr vo vt ls P W htn hta htm hll hcr hE
    cases hh : hopB (nl rd) er (rowR (nl rd) a) with
    | true => exact texts_hop W0 Bt Bl Bo Bf A cap cs rd er m hcp hl he hm 0 t a cr vo vt ls P W htn hcr hh hE
    | false => exact texts_zero W0 Bt Bl Bo Bf A cap cs rd er m hcp hl he hm t a cr vo vt ls P W htn htm (by omega) hcr hh hE
  | succ q ih =>
    intro t a cr vo vt ls P W htn hta htm hll hcr hE
    cases hh : hopB (nl rd) er (rowR (nl rd) a) with
    | true => exact texts_hop W0 Bt Bl Bo Bf A cap cs rd er m hcp hl he hm (q + 1) t a cr vo vt ls P W htn hcr hh hE
    | false =>
      have IH := Lib.hid ih
      have HX := Lib.hid (txL_succ (cl cs) (nl rd) er q t a hh)
      have HCL := Lib.hid (cl_len cs)
      have HTA := Lib.hid hta
      have HTM := Lib.hid htm
      have HLL := Lib.hid hll
      have HC4 := Lib.hid hc4
      have HH := Lib.hid hh
      have hml : ((t.length : Int) == (m : Int)) = false := by simp; omega
      have ht5 : t.length ≤ 5 := by omega
      have HLT := Lib.hid hE.txt.lt
      have hvol := hE.own.lt
      have HW0 := Lib.hid hE.size
      clear ih hta hll hh htm hc4
      obtain ⟨At, ct, rfl⟩ := hE.txt.len
      have hbx : Below W.heap.size W (W.alloc (.cells cr 164)) := (Below.refl _ _).alloc (Nat.le_refl _) _
      have hnx := Go.heap_alloc_new W (.cells cr 164)
      have hE1 := hE.keep hbx
      have hF1 : TFr Bo W vo (.slice At t.length ct) (W.alloc (.cells cr 164)) vo := TFr.of_below hbx
      have hlt1 : W.heap.size < (W.alloc (.cells cr 164)).heap.size := by simp
      have HCP := Lib.hid hcp
      have HCR := Lib.hid hcr
      have HTN := Lib.hid htn
      clear hE hcp hcr htn hbx
      go_enter Try.func112, Try.ntmps112
      go_upto_region 1 with fail
      generalize W.alloc (.cells cr 164) = w1 at hE1 hF1 hnx hlt1 ⊢
      obtain ⟨Br, hBr⟩ : ∃ B, W.heap.size = B := ⟨_, rfl⟩
      rw [hBr] at hnx hlt1 ⊢
      have HBR := Lib.hid hBr
      obtain ⟨c0, c1, c2, c3, c4⟩ := HCP.out.cells hE1.same
      have HC := Lib.hid (HCP.out.cells hE1.same)
      have HRB := Lib.hid hnx
      have HE1 := Lib.hid hE1
      have HF1 := Lib.hid hF1
      clear hE1 hF1 hnx hBr
      have HHOP := Lib.hid (hopeless_any rd A cs.length cap er cr _ w1 hl HCR.out he)
      rw [HH.out] at HHOP
      clear HH
      go_wp2_with (refine wpList_load_row rfl 164 _ rfl _ rfl 164 cr _ _ HRB.out Try.underlying164 rfl HCR.out.info ?_)
      refine HHOP.out.mono ?_
      rintro e w2 ⟨rfl, hb⟩
      have d0 := cell_later hb c0
      have d3 := cell_later hb c3
      have HRB2 := Lib.hid ((hb.block Br hlt1).trans HRB.out)
      have HE2 := Lib.hid (HE1.out.keep hb)
      have HF2 := Lib.hid (HF1.out.trans (TFr.of_below hb))
      have HL2 := Lib.hid (Nat.lt_of_lt_of_le hlt1 hb.size)
      have HVO := Lib.hid (fun (e : vo.ownBlock = some Br) => by have := (hvol Br e).2; have := HBR.out; omega : ¬ vo.ownBlock = some Br)
      have HBO := Lib.hid (show Br ≠ Bo by have := HE1.out.lo; have := HW0.out; have := HBR.out; omega)
      have HBRW := Lib.hid (fun k (hk : (Value.slice At t.length ct).ownBlock = some k) => show k ≠ Br from fun e => by have := (HLT.out k hk).2; have := HBR.out; omega)
      clear hb c0 c1 c2 c3 c4 HHOP HE1 HF1 HRB HC hvol
      go_wp2_with fail
      clear d0 d3
      go_loopw [34] (TxRel W0 Bo w2 vo ls (.slice At t.length ct) t P cs.length (txK (cl cs) (nl rd) er q t a)) (fun i _ => cs.length - (intOf i).toNat)
      case atStart => exact ⟨0, by omega, rfl, vo, by rw [txK_zero, List.append_nil]; exact HE2.out, TFr.refl⟩
      case round =>
        obtain ⟨k, hk, rfl, vk, hE, hF⟩ := hrel
        have HE := Lib.hid hE
        have HF := Lib.hid hF
        have HRB3 := Lib.hid ((hF.same Br HL2.out HBO.out HVO.out (fun e => HBRW.out Br e rfl)).trans HRB2.out)
        have HVK := Lib.hid (fun (e : vk.ownBlock = some Br) => by
          rcases hF.out Br e with e2 | e2
          · exact HVO.out e2
          · have := HL2.out; omega : ¬ vk.ownBlock = some Br)
        clear hE hF HE2
        by_cases hlt : k < cs.length
        · have hlt' : decide ((k : Int) < (cs.length : Int)) = true := by simpa using hlt
          obtain ⟨bs, os, rfl, hs0⟩ := (HCP.out.strs wr HE.out.same).at hlt
          have hs4 := HC4.out cs[k] (List.getElem_mem hlt)
          have hcg := cl_get hlt
          obtain ⟨s, hs⟩ : ∃ s, cs[k] = s := ⟨_, rfl⟩
          rw [hs] at hs0 hs4 hcg
          have i0 : (0 : Int) ≤ (k : Int) := by omega
          have i1 : (k : Int) < (cs.length : Int) := by omega
          have HS1 := Lib.hid (HCP.out.cells HE.out.same)
          have HS0 := Lib.hid (show wr.cell? ⟨Bf, 0, none⟩ = some (.func (.func 112) #[] #[.pointer (some ⟨Bt, 0, none⟩), .pointer (some ⟨Bl, 0, none⟩), .pointer (some ⟨Bo, 0, none⟩), .pointer (some ⟨Bf, 0, none⟩)]) ∧ wr.cell? ⟨Bt, 0, none⟩ = some (.slice (some ⟨bs, os, none⟩) cs.length cap) ∧ wr.cell? ⟨Bt, 1, none⟩ = some (.string rd) ∧ wr.cell? ⟨Bt, 2, none⟩ = some (.int .i64 er) ∧ wr.rangeAt Br 0 cr.toList from ⟨HS1.out.2.2.2.2, HS1.out.1, HS1.out.2.1, HS1.out.2.2.1, rangeAt_block HRB3.out⟩)
          have HBL := Lib.hid (Array.getElem?_eq_some_iff.1 HRB3.out).1
          have hls : (ls ++ txK (cl cs) (nl rd) er q t a k).length + 6 ^ q ≤ 1000000 := by
            rw [List.length_append]
            have h1 := txK_len (cs := cl cs) (rd := nl rd) (e := er) (by rw [HCL.out]; exact hc6) q t a k
            have h2 : (k + 1) * 6 ^ q ≤ 6 * 6 ^ q := Nat.mul_le_mul_right _ (by omega)
            have h3 := HLL.out
            rw [Nat.pow_succ, Nat.mul_comm (6 ^ q) 6] at h3
            rw [Nat.succ_mul] at h2
            omega
          have HLS := Lib.hid hls
          clear hs hls HS1
          by_cases ht0 : t = []
          · have hsg : nl s = sg1 (cl cs) t k := by unfold sg1; rw [if_pos ht0, hcg]
            have HSG := Lib.hid hsg
            have HHD := Lib.hid (show a = [] ∨ (nl s).head? = some 32 from .inl (HTA.out ht0))
            have HSL := Lib.hid hs4
            have htl0 : decide ((0 : Int) < (t.length : Int)) = false := by simp [ht0]
            have htl1 : ¬ 0 < t.length := by simp [ht0]
            clear ht0 hsg hcg hs4
            go_upto_region 10 with fail
            clear htl0 htl1
            refine wp_region_held_drew (S := fun X => X.cell? ⟨Bf, 0, none⟩ = some (.func (.func 112) #[] #[.pointer (some ⟨Bt, 0, none⟩), .pointer (some ⟨Bl, 0, none⟩), .pointer (some ⟨Bo, 0, none⟩), .pointer (some ⟨Bf, 0, none⟩)]) ∧ X.cell? ⟨Bt, 0, none⟩ = some (.slice (some ⟨bs, os, none⟩) cs.length cap) ∧ X.cell? ⟨Bt, 1, none⟩ = some (.string rd) ∧ X.cell? ⟨Bt, 2, none⟩ = some (.int .i64 er) ∧ X.rangeAt Br 0 cr.toList) (by kernel_rfl) (HS0.out) (fun hS0 => ?_)
            refine wpAnyH_take (i := 0) (oi := { dst := some 44, op := Op.load 162 (Operand.tmp 5), type := 162, pos := "texts.go:92", after := #[], guard := none }) (v := ?_) rfl (by kernel_rfl) (by kernel_rfl) (by kernel_rfl) (fun _ _ _ h => h) (Or.inl ⟨by rfl, ?_⟩) hS0 ?_
            rotate_left
            · intro X hX
              obtain ⟨x0, x1, x2, x3, x4⟩ := hX
              go_simp
              try with_reducible rfl
            simp only [Act.put, List.setIfInBounds_toArray, List.set_cons_zero, List.set_cons_succ, Array.toArray_toList]
            refine wpAnyH_take (i := 1) (oi := { dst := some 45, op := Op.move (Operand.tmp 0), type := 25, pos := "texts.go:92", after := #[], guard := none }) (v := ?_) rfl (by kernel_rfl) (by kernel_rfl) (by kernel_rfl) (fun _ _ _ h => h) (Or.inl ⟨by rfl, ?_⟩) hS0 ?_
            rotate_left
            · intro X hX
              obtain ⟨x0, x1, x2, x3, x4⟩ := hX
              go_simp
              try with_reducible rfl
            simp only [Act.put, List.setIfInBounds_toArray, List.set_cons_zero, List.set_cons_succ, Array.toArray_toList]
            refine wpAnyH_take (i := 2) (oi := { dst := some 46, op := Op.move (Operand.tmp 8), type := 3, pos := "texts.go:92", after := #[], guard := none }) (v := ?_) rfl (by kernel_rfl) (by kernel_rfl) (by kernel_rfl) (fun _ _ _ h => h) (Or.inl ⟨by rfl, ?_⟩) hS0 ?_
            rotate_left
            · intro X hX
              obtain ⟨x0, x1, x2, x3, x4⟩ := hX
              go_simp
              try with_reducible rfl
            simp only [Act.put, List.setIfInBounds_toArray, List.set_cons_zero, List.set_cons_succ, Array.toArray_toList]
            refine wpAnyH_take (i := 5) (oi := { dst := some 49, op := Op.load 134 (Operand.tmp 2), type := 134, pos := "texts.go:92", after := #[], guard := none }) (v := ?_) rfl (by kernel_rfl) (by kernel_rfl) (by kernel_rfl) (fun _ _ _ h => h) (Or.inl ⟨by rfl, ?_⟩) hS0 ?_
            rotate_left
            · intro X hX
              obtain ⟨x0, x1, x2, x3, x4⟩ := hX
              go_simp
              try with_reducible rfl
            simp only [Act.put, List.setIfInBounds_toArray, List.set_cons_zero, List.set_cons_succ, Array.toArray_toList]
            refine wpAnyH_take (i := 7) (oi := { dst := some 51, op := Op.move (Operand.tmp 9), type := 9, pos := "texts.go:92", after := #[], guard := none }) (v := ?_) rfl (by kernel_rfl) (by kernel_rfl) (by kernel_rfl) (fun _ _ _ h => h) (Or.inl ⟨by rfl, ?_⟩) hS0 ?_
            rotate_left
            · intro X hX
              obtain ⟨x0, x1, x2, x3, x4⟩ := hX
              go_simp
              try with_reducible rfl
            simp only [Act.put, List.setIfInBounds_toArray, List.set_cons_zero, List.set_cons_succ, Array.toArray_toList]
            refine wpAnyH_take (i := 6) (oi := { dst := some 50, op := Op.load 164 (Operand.tmp 7), type := 164, pos := "texts.go:92", after := #[], guard := none }) rfl (by kernel_rfl) (by kernel_rfl) (by kernel_rfl) (fun _ _ _ h => h) (yieldsIf_load_mid (by rfl) _ _ rfl _ _ rfl cr.toList _ (fun X hX => hX.2.2.2.2) Try.underlying164 rfl (by rw [Array.length_toList]; exact HCR.out.info)) hS0 ?_
            simp only [Act.put, List.setIfInBounds_toArray, List.set_cons_zero, List.set_cons_succ, Array.toArray_toList]
            refine wpAnyH_ready (rs := [3]) (by kernel_rfl) (by simp) (AllReadyH.cons (o := { dst := some 47, op := Op.buildSlice 25 1 #[(0, Operand.tmp 46)], type := 25, pos := "texts.go:92", after := #[{ on := 2, ground := Ground.data }], guard := none }) rfl (fun K hK => ?_) AllReadyH.nil)
            go_simp
            have hb4 : Below wr.heap.size wr (wr.alloc (.cells #[.int .i64 (k : Int)] 3)).drew := ((Below.refl _ _).alloc (Nat.le_refl _) _).drew
            have hn4 : (wr.alloc (.cells #[.int .i64 (k : Int)] 3)).drew.heap[wr.heap.size]? = some (.cells #[.int .i64 (k : Int)] 3 (0, 0)) := Go.heap_alloc_new wr _
            have HE4 := Lib.hid (HE.out.keep hb4)
            have HF4 := Lib.hid (HF.out.trans (TFr.of_below (vt := .slice At t.length ct) hb4))
            have HR4 := Lib.hid ((hb4.block Br HBL.out).trans HRB3.out)
            have HL4 := Lib.hid (Nat.lt_of_lt_of_le HBL.out hb4.size)
            obtain ⟨B4, hB4⟩ : ∃ B, wr.heap.size = B := ⟨_, rfl⟩
            rw [hB4] at hn4 ⊢
            clear hB4 hb4
            generalize (wr.alloc (.cells #[.int .i64 (k : Int)] 3)).drew = w4 at HE4 HF4 HR4 HL4 hn4 ⊢
            have HN4 := Lib.hid hn4
            have HS4 := Lib.hid (HCP.out.cells HE4.out.same)
            clear hn4
            refine hK.out _ _ (⟨HS4.out.2.2.2.2, HS4.out.1, HS4.out.2.1, HS4.out.2.2.1, rangeAt_block HR4.out⟩) (fun hS1 => ?_)
            clear hS0 hK K
            refine wpAnyH_ready (rs := [4]) (by kernel_rfl) (by simp) (AllReadyH.cons (o := { dst := some 48, op := Op.call { callee := Callee.builtin Builtin.append, args := #[Operand.tmp 45, Operand.tmp 47], argTypes := #[25, 25] }, type := 25, pos := "texts.go:92", after := #[{ on := 1, ground := Ground.data }, { on := 3, ground := Ground.data }], guard := none }) rfl (fun K hK => ?_) AllReadyH.nil)
            refine step_app_txt (by rfl) _ _ (by rfl) W0.heap.size (.slice At t.length ct) t k B4 (by rfl) HE4.out.txt (by rfl) HN4.out (by omega) HE4.out.size ?_
            intro g5 cap5 w5 hA
            have HA := Lib.hid hA
            have HE5 := Lib.hid (HE4.out.child hA)
            have HR5 := Lib.hid ((app_far hA HE4.out HBRW.out HL4.out).trans HR4.out)
            have HL5 := Lib.hid (Array.getElem?_eq_some_iff.1 HR5.out).1
            have HS5 := Lib.hid (HCP.out.cells HE5.out.same)
            clear hA
            refine hK.out _ _ (⟨HS5.out.2.2.2.2, HS5.out.1, HS5.out.2.1, HS5.out.2.2.1, rangeAt_block HR5.out⟩) (fun hS2 => ?_)
            clear hS1 hK K
            simp only [Act.put, List.setIfInBounds_toArray, List.set_cons_zero, List.set_cons_succ, Array.toArray_toList]
            refine wpAnyH_ready (rs := [8]) (by kernel_rfl) (by simp) (AllReadyH.cons (o := { dst := some 52, op := Op.call { callee := Callee.value (Operand.func 115), args := #[Operand.tmp 49, Operand.tmp 50, Operand.tmp 51], argTypes := #[134, 164, 9] }, type := 164, pos := "texts.go:92", after := #[{ on := 5, ground := Ground.data }, { on := 6, ground := Ground.data }, { on := 7, ground := Ground.data }, { on := 4, ground := Ground.chain }], guard := none }) rfl (fun K hK => ?_) AllReadyH.nil)
            go_simp
            refine (after_any rd (s) (some ⟨bs, os, none⟩) cs.length cap er cr a _ hl (by have := HSL.out; omega) HCR.out HHD.out).mono ?_
            rintro e w6 ⟨cs6, rfl, hcs, hb6⟩
            have HB6 := Lib.hid hb6
            have HE6 := Lib.hid (HE5.out.keep hb6)
            have HR6 := Lib.hid ((hb6.block Br HL5.out).trans HR5.out)
            have HL6 := Lib.hid (Nat.lt_of_lt_of_le HL5.out hb6.size)
            have HS6 := Lib.hid (HCP.out.cells HE6.out.same)
            have HCS6 := Lib.hid hcs
            clear hb6 hcs
            go_wp2_with fail
            refine hK.out _ _ (⟨HS6.out.2.2.2.2, HS6.out.1, HS6.out.2.1, HS6.out.2.2.1, rangeAt_block HR6.out⟩) (fun hS3 => ?_)
            clear hS2 hK K
            refine wpAnyH_ready (rs := [9]) (by kernel_rfl) (by simp) (AllReadyH.cons (o := { dst := some 53, op := Op.call { callee := Callee.value (Operand.tmp 44), args := #[Operand.tmp 48, Operand.tmp 52], argTypes := #[25, 164] }, type := 0, pos := "texts.go:92", after := #[{ on := 0, ground := Ground.data }, { on := 4, ground := Ground.data }, { on := 8, ground := Ground.data }, { on := 8, ground := Ground.chain }], guard := none }) rfl (fun K hK => ?_) AllReadyH.nil)
            go_simp
            have hcall := IH.out (t ++ [k]) ((nl (s)).reverse ++ a) cs6 vk (.slice (some ⟨g5, 0, none⟩) (t.length + 1) cap5) (ls ++ txK (cl cs) (nl rd) er q t a k) _ w6 (by simp) (by simp) (by rw [← HTM.out, List.length_append, List.length_singleton]; omega) HLS.out HCS6.out HE6.out
            have HCALL := Lib.hid hcall
            clear hcall
            refine HCALL.out.mono ?_
            rintro e w7 ⟨rfl, v7, hE7, hF7⟩
            obtain ⟨hE8, hF8⟩ := HE4.out.back HA.out HB6.out hE7 hF7
            have hfar := hF7.same Br HL6.out HBO.out HVK.out (fun e => by
              have e2 : g5 = Br := by simpa [Value.ownBlock] using e
              rcases HA.out.2.2 with ⟨_, a4⟩ | ⟨a3, _⟩
              · have := HL4.out; omega
              · exact HBRW.out g5 (by rw [a3]; rfl) e2)
            have HR7 := Lib.hid (hfar.trans HR6.out)
            have HE8 := Lib.hid hE8
            have HF8 := Lib.hid (HF4.out.trans hF8)
            have HS7 := Lib.hid (HCP.out.cells HE8.out.same)
            clear hE7 hF7 hE8 hF8 hfar HCALL
            go_wp2_with fail
            refine hK.out _ _ (⟨HS7.out.2.2.2.2, HS7.out.1, HS7.out.2.1, HS7.out.2.2.1, rangeAt_block HR7.out⟩) (fun hS4 => ?_)
            clear hS3 hK K
            refine wpAnyH_done (by kernel_rfl) ?_ _
            clear hS4
            go_wp2_with fail
            go_roundw
            case rel => exact ⟨k + 1, by omega, by go_num, v7, by
              have h := HE8.out
              rw [List.append_assoc, HSG.out, ← txK_succ] at h
              exact h, HF8.out⟩
            case measure => simp [intOf]; omega
          · have hpos : 0 < t.length := List.length_pos_iff.2 ht0
            have hnl : nl (⟨#[32]⟩ ++ s) = 32 :: nl s := by rw [nl_app, nl_mk]; rfl
            have hsg : nl (⟨#[32]⟩ ++ s) = sg1 (cl cs) t k := by unfold sg1; rw [if_neg ht0, hcg, hnl]
            have HSG := Lib.hid hsg
            have HHD := Lib.hid (show a = [] ∨ (nl (⟨#[32]⟩ ++ s)).head? = some 32 from .inr (by rw [hnl]; rfl))
            have HSL := Lib.hid (show (⟨#[32]⟩ ++ s : ByteArray).size ≤ 5 by rw [← nl_len, hnl, List.length_cons, nl_len]; omega)
            have htl0 : decide ((0 : Int) < (t.length : Int)) = true := by simp; omega
            have hno : ¬ (9223372036854775807 < 1 + s.size) := by omega
            clear ht0 hsg hcg hs4 hnl
            go_upto_region 10 with fail
            clear htl0 hno
            generalize (ByteArray.mk #[32] ++ s) = S at HSG HHD HSL ⊢
            refine wp_region_held_drew (S := fun X => X.cell? ⟨Bf, 0, none⟩ = some (.func (.func 112) #[] #[.pointer (some ⟨Bt, 0, none⟩), .pointer (some ⟨Bl, 0, none⟩), .pointer (some ⟨Bo, 0, none⟩), .pointer (some ⟨Bf, 0, none⟩)]) ∧ X.cell? ⟨Bt, 0, none⟩ = some (.slice (some ⟨bs, os, none⟩) cs.length cap) ∧ X.cell? ⟨Bt, 1, none⟩ = some (.string rd) ∧ X.cell? ⟨Bt, 2, none⟩ = some (.int .i64 er) ∧ X.rangeAt Br 0 cr.toList) (by kernel_rfl) (HS0.out) (fun hS0 => ?_)
            refine wpAnyH_take (i := 0) (oi := { dst := some 44, op := Op.load 162 (Operand.tmp 5), type := 162, pos := "texts.go:92", after := #[], guard := none }) (v := ?_) rfl (by kernel_rfl) (by kernel_rfl) (by kernel_rfl) (fun _ _ _ h => h) (Or.inl ⟨by rfl, ?_⟩) hS0 ?_
            rotate_left
            · intro X hX
              obtain ⟨x0, x1, x2, x3, x4⟩ := hX
              go_simp
              try with_reducible rfl
            simp only [Act.put, List.setIfInBounds_toArray, List.set_cons_zero, List.set_cons_succ, Array.toArray_toList]
            refine wpAnyH_take (i := 1) (oi := { dst := some 45, op := Op.move (Operand.tmp 0), type := 25, pos := "texts.go:92", after := #[], guard := none }) (v := ?_) rfl (by kernel_rfl) (by kernel_rfl) (by kernel_rfl) (fun _ _ _ h => h) (Or.inl ⟨by rfl, ?_⟩) hS0 ?_
            rotate_left
            · intro X hX
              obtain ⟨x0, x1, x2, x3, x4⟩ := hX
              go_simp
              try with_reducible rfl
            simp only [Act.put, List.setIfInBounds_toArray, List.set_cons_zero, List.set_cons_succ, Array.toArray_toList]
            refine wpAnyH_take (i := 2) (oi := { dst := some 46, op := Op.move (Operand.tmp 8), type := 3, pos := "texts.go:92", after := #[], guard := none }) (v := ?_) rfl (by kernel_rfl) (by kernel_rfl) (by kernel_rfl) (fun _ _ _ h => h) (Or.inl ⟨by rfl, ?_⟩) hS0 ?_
            rotate_left
            · intro X hX
              obtain ⟨x0, x1, x2, x3, x4⟩ := hX
              go_simp
              try with_reducible rfl
            simp only [Act.put, List.setIfInBounds_toArray, List.set_cons_zero, List.set_cons_succ, Array.toArray_toList]
            refine wpAnyH_take (i := 5) (oi := { dst := some 49, op := Op.load 134 (Operand.tmp 2), type := 134, pos := "texts.go:92", after := #[], guard := none }) (v := ?_) rfl (by kernel_rfl) (by kernel_rfl) (by kernel_rfl) (fun _ _ _ h => h) (Or.inl ⟨by rfl, ?_⟩) hS0 ?_
            rotate_left
            · intro X hX
              obtain ⟨x0, x1, x2, x3, x4⟩ := hX
              go_simp
              try with_reducible rfl
            simp only [Act.put, List.setIfInBounds_toArray, List.set_cons_zero, List.set_cons_succ, Array.toArray_toList]
            refine wpAnyH_take (i := 7) (oi := { dst := some 51, op := Op.move (Operand.tmp 9), type := 9, pos := "texts.go:92", after := #[], guard := none }) (v := ?_) rfl (by kernel_rfl) (by kernel_rfl) (by kernel_rfl) (fun _ _ _ h => h) (Or.inl ⟨by rfl, ?_⟩) hS0 ?_
            rotate_left
            · intro X hX
              obtain ⟨x0, x1, x2, x3, x4⟩ := hX
              go_simp
              try with_reducible rfl
            simp only [Act.put, List.setIfInBounds_toArray, List.set_cons_zero, List.set_cons_succ, Array.toArray_toList]
            refine wpAnyH_take (i := 6) (oi := { dst := some 50, op := Op.load 164 (Operand.tmp 7), type := 164, pos := "texts.go:92", after := #[], guard := none }) rfl (by kernel_rfl) (by kernel_rfl) (by kernel_rfl) (fun _ _ _ h => h) (yieldsIf_load_mid (by rfl) _ _ rfl _ _ rfl cr.toList _ (fun X hX => hX.2.2.2.2) Try.underlying164 rfl (by rw [Array.length_toList]; exact HCR.out.info)) hS0 ?_
            simp only [Act.put, List.setIfInBounds_toArray, List.set_cons_zero, List.set_cons_succ, Array.toArray_toList]
            refine wpAnyH_ready (rs := [3]) (by kernel_rfl) (by simp) (AllReadyH.cons (o := { dst := some 47, op := Op.buildSlice 25 1 #[(0, Operand.tmp 46)], type := 25, pos := "texts.go:92", after := #[{ on := 2, ground := Ground.data }], guard := none }) rfl (fun K hK => ?_) AllReadyH.nil)
            go_simp
            have hb4 : Below wr.heap.size wr (wr.alloc (.cells #[.int .i64 (k : Int)] 3)).drew := ((Below.refl _ _).alloc (Nat.le_refl _) _).drew
            have hn4 : (wr.alloc (.cells #[.int .i64 (k : Int)] 3)).drew.heap[wr.heap.size]? = some (.cells #[.int .i64 (k : Int)] 3 (0, 0)) := Go.heap_alloc_new wr _
            have HE4 := Lib.hid (HE.out.keep hb4)
            have HF4 := Lib.hid (HF.out.trans (TFr.of_below (vt := .slice At t.length ct) hb4))
            have HR4 := Lib.hid ((hb4.block Br HBL.out).trans HRB3.out)
            have HL4 := Lib.hid (Nat.lt_of_lt_of_le HBL.out hb4.size)
            obtain ⟨B4, hB4⟩ : ∃ B, wr.heap.size = B := ⟨_, rfl⟩
            rw [hB4] at hn4 ⊢
            clear hB4 hb4
            generalize (wr.alloc (.cells #[.int .i64 (k : Int)] 3)).drew = w4 at HE4 HF4 HR4 HL4 hn4 ⊢
            have HN4 := Lib.hid hn4
            have HS4 := Lib.hid (HCP.out.cells HE4.out.same)
            clear hn4
            refine hK.out _ _ (⟨HS4.out.2.2.2.2, HS4.out.1, HS4.out.2.1, HS4.out.2.2.1, rangeAt_block HR4.out⟩) (fun hS1 => ?_)
            clear hS0 hK K
            refine wpAnyH_ready (rs := [4]) (by kernel_rfl) (by simp) (AllReadyH.cons (o := { dst := some 48, op := Op.call { callee := Callee.builtin Builtin.append, args := #[Operand.tmp 45, Operand.tmp 47], argTypes := #[25, 25] }, type := 25, pos := "texts.go:92", after := #[{ on := 1, ground := Ground.data }, { on := 3, ground := Ground.data }], guard := none }) rfl (fun K hK => ?_) AllReadyH.nil)
            refine step_app_txt (by rfl) _ _ (by rfl) W0.heap.size (.slice At t.length ct) t k B4 (by rfl) HE4.out.txt (by rfl) HN4.out (by omega) HE4.out.size ?_
            intro g5 cap5 w5 hA
            have HA := Lib.hid hA
            have HE5 := Lib.hid (HE4.out.child hA)
            have HR5 := Lib.hid ((app_far hA HE4.out HBRW.out HL4.out).trans HR4.out)
            have HL5 := Lib.hid (Array.getElem?_eq_some_iff.1 HR5.out).1
            have HS5 := Lib.hid (HCP.out.cells HE5.out.same)
            clear hA
            refine hK.out _ _ (⟨HS5.out.2.2.2.2, HS5.out.1, HS5.out.2.1, HS5.out.2.2.1, rangeAt_block HR5.out⟩) (fun hS2 => ?_)
            clear hS1 hK K
            simp only [Act.put, List.setIfInBounds_toArray, List.set_cons_zero, List.set_cons_succ, Array.toArray_toList]
            refine wpAnyH_ready (rs := [8]) (by kernel_rfl) (by simp) (AllReadyH.cons (o := { dst := some 52, op := Op.call { callee := Callee.value (Operand.func 115), args := #[Operand.tmp 49, Operand.tmp 50, Operand.tmp 51], argTypes := #[134, 164, 9] }, type := 164, pos := "texts.go:92", after := #[{ on := 5, ground := Ground.data }, { on := 6, ground := Ground.data }, { on := 7, ground := Ground.data }, { on := 4, ground := Ground.chain }], guard := none }) rfl (fun K hK => ?_) AllReadyH.nil)
            go_simp
            refine (after_any rd (S) (some ⟨bs, os, none⟩) cs.length cap er cr a _ hl (by have := HSL.out; omega) HCR.out HHD.out).mono ?_
            rintro e w6 ⟨cs6, rfl, hcs, hb6⟩
            have HB6 := Lib.hid hb6
            have HE6 := Lib.hid (HE5.out.keep hb6)
            have HR6 := Lib.hid ((hb6.block Br HL5.out).trans HR5.out)
            have HL6 := Lib.hid (Nat.lt_of_lt_of_le HL5.out hb6.size)
            have HS6 := Lib.hid (HCP.out.cells HE6.out.same)
            have HCS6 := Lib.hid hcs
            clear hb6 hcs
            go_wp2_with fail
            refine hK.out _ _ (⟨HS6.out.2.2.2.2, HS6.out.1, HS6.out.2.1, HS6.out.2.2.1, rangeAt_block HR6.out⟩) (fun hS3 => ?_)
            clear hS2 hK K
            refine wpAnyH_ready (rs := [9]) (by kernel_rfl) (by simp) (AllReadyH.cons (o := { dst := some 53, op := Op.call { callee := Callee.value (Operand.tmp 44), args := #[Operand.tmp 48, Operand.tmp 52], argTypes := #[25, 164] }, type := 0, pos := "texts.go:92", after := #[{ on := 0, ground := Ground.data }, { on := 4, ground := Ground.data }, { on := 8, ground := Ground.data }, { on := 8, ground := Ground.chain }], guard := none }) rfl (fun K hK => ?_) AllReadyH.nil)
            go_simp
            have hcall := IH.out (t ++ [k]) ((nl (S)).reverse ++ a) cs6 vk (.slice (some ⟨g5, 0, none⟩) (t.length + 1) cap5) (ls ++ txK (cl cs) (nl rd) er q t a k) _ w6 (by simp) (by simp) (by rw [← HTM.out, List.length_append, List.length_singleton]; omega) HLS.out HCS6.out HE6.out
            have HCALL := Lib.hid hcall
            clear hcall
            refine HCALL.out.mono ?_
            rintro e w7 ⟨rfl, v7, hE7, hF7⟩
            obtain ⟨hE8, hF8⟩ := HE4.out.back HA.out HB6.out hE7 hF7
            have hfar := hF7.same Br HL6.out HBO.out HVK.out (fun e => by
              have e2 : g5 = Br := by simpa [Value.ownBlock] using e
              rcases HA.out.2.2 with ⟨_, a4⟩ | ⟨a3, _⟩
              · have := HL4.out; omega
              · exact HBRW.out g5 (by rw [a3]; rfl) e2)
            have HR7 := Lib.hid (hfar.trans HR6.out)
            have HE8 := Lib.hid hE8
            have HF8 := Lib.hid (HF4.out.trans hF8)
            have HS7 := Lib.hid (HCP.out.cells HE8.out.same)
            clear hE7 hF7 hE8 hF8 hfar HCALL
            go_wp2_with fail
            refine hK.out _ _ (⟨HS7.out.2.2.2.2, HS7.out.1, HS7.out.2.1, HS7.out.2.2.1, rangeAt_block HR7.out⟩) (fun hS4 => ?_)
            clear hS3 hK K
            refine wpAnyH_done (by kernel_rfl) ?_ _
            clear hS4
            go_wp2_with fail
            go_roundw
            case rel => exact ⟨k + 1, by omega, by go_num, v7, by
              have h := HE8.out
              rw [List.append_assoc, HSG.out, ← txK_succ] at h
              exact h, HF8.out⟩
            case measure => simp [intOf]; omega
        · have hlt' : decide ((k : Int) < (cs.length : Int)) = false := by simpa using hlt
          obtain rfl : k = cs.length := by omega
          have hfin : TPost W0 Bo W vo ls (.slice At t.length ct) t P (txL (cl cs) (nl rd) er (q + 1) t a) (.returned (.tuple #[])) wr := by
            rw [HX.out, HCL.out]
            exact ⟨rfl, vk, HE.out, HF2.out.trans HF.out⟩
          have HFIN := Lib.hid hfin
          clear hfin HE HF
          go_wp2_with fail
          go_end0
          exact HFIN.out
end
end Go.Proofs.Ytkloaeaepjoijaa

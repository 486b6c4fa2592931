/-
  Words; Closed, plainly: what a net around a truth comes to; its rows in memory.
-/
import Derived.Test.YtkloaeaepjoijaaLawC
set_option linter.all false
namespace Go.Proofs.Ytkloaeaepjoijaa
open Go.RowKit Go.WalkArith


/-- Words behind a slice. -/
def WordsAt (W : World) (v : Value) (ws : List Int) : Prop :=
  ∃ A cap, v = .slice A ws.length cap ∧ (∀ x ∈ ws, 0 ≤ x ∧ x ≤ 65535) ∧ (ws = [] ∨ ∃ b o, A = some ⟨b, o, none⟩ ∧ ∀ i (h : i < ws.length), W.cell? ⟨b, o + i, none⟩ = some (.int .u16 ws[i]))
theorem WordsAt.keep {W W' : World} {v : Value} {ws : List Int} {B : Nat} (h : WordsAt W v ws) (hb : Below B W W') (hB : W.heap.size ≤ B) : WordsAt W' v ws := by
  obtain ⟨A, cap, h1, h0, h2⟩ := h
  refine ⟨A, cap, h1, h0, ?_⟩
  rcases h2 with h2 | ⟨b, o, h3, h4⟩
  · exact .inl h2
  · exact .inr ⟨b, o, h3, fun i hi => (hb.cell (p := ⟨b, o + i, none⟩) (Nat.lt_of_lt_of_le (World.block_lt_of_cell? W _ (h4 i hi)) hB)).trans (h4 i hi)⟩

def WordPost (w : World) (e : Ending) (w' : World) : Prop := ∃ v : Int, e = .returned (.int .i64 v) ∧ 0 ≤ v ∧ v ≤ 65535 ∧ w = w'
set_option maxHeartbeats 1000000 in
theorem word_any (v : Value) (ws : List Int) (k : Nat) (w : World) (hw : WordsAt w v ws) (hn : ws.length ≤ 9223372036854775807) (hk : k ≤ 1000) :
    Calls Try.prog 83 #[v, .int .i64 k] w (WordPost w) := by
  obtain ⟨A, cap, rfl, h0, hc⟩ := hw
  by_cases hz : ws.length = 0
  · have hb : ((ws.length : Int) == 0) = true := by simp [hz]
    clear hz h0 hc
    go_enter Try.func83, Try.ntmps83
    go_wp2_with fail
    go_ret
    exact ⟨0, rfl, by omega, by omega, rfl⟩
  · have hb : ((ws.length : Int) == 0) = false := by simpa using hz
    obtain ⟨b, o, rfl, hd⟩ := hc.resolve_left (fun h => by rw [h] at hz; simp at hz)
    have hlt : k % ws.length < ws.length := Nat.mod_lt _ (by omega)
    have ck := hd _ hlt
    have hr := h0 ws[k % ws.length] (List.getElem_mem hlt)
    obtain ⟨x, hx⟩ : ∃ x, ws[k % ws.length] = x := ⟨_, rfl⟩
    rw [hx] at ck hr
    obtain ⟨i, hi⟩ : ∃ i, k % ws.length = i := ⟨_, rfl⟩
    rw [hi] at ck hlt
    have e1 : (k : Int) % (ws.length : Int) = (i : Int) := by rw [← hi]; rfl
    have e2 : (k : Int).tmod (ws.length : Int) = (i : Int) := by rw [Int.tmod_eq_emod_of_nonneg (by omega)]; exact e1
    have i1 : (0 : Int) ≤ (i : Int) := by omega
    have i2 : (i : Int) < (ws.length : Int) := by omega
    have p1 : 1 ≤ (ws.length : Int) := by omega
    have r0 := hr.1
    have r1 := hr.2
    clear hx hi hc hd h0 hz hr
    go_enter Try.func83, Try.ntmps83
    go_wp2_with fail
    go_ret
    exact ⟨x, rfl, r0, r1, rfl⟩


/-- What one more angle adds at a node. -/
def pushS (t c x v : Int) : Int := (if nodeOf t 0 = v then x else 0) + (if nodeOf c 5 = v then x else 0)
theorem sumsP_push {l : List Ang} {xs : List Int} {a : Ang} {x : Int} (h : l.length = xs.length) (v : Int) : sumsP (l ++ [a]) (fnOf (xs ++ [x])) (l.length + 1) v = sumsP l (fnOf xs) l.length v + pushS a.t a.c x v := by
  unfold sumsP
  simp only [sumR]
  have h1 : frL (l ++ [a]) (l.length : Int) = nodeOf a.t 0 := by simp [frL, tOf]
  have h2 : toL (l ++ [a]) (l.length : Int) = nodeOf a.c 5 := by simp [toL, cOf]
  have h3 : fnOf (xs ++ [x]) (l.length : Int) = x := by simp [fnOf, h]
  rw [h1, h2, h3]
  congr 1
  refine sumR_congr fun i hi => ?_
  have e1 : frL (l ++ [a]) (i : Int) = frL l i := by simp [frL, tOf, List.getElem?_append_left hi]
  have e2 : toL (l ++ [a]) (i : Int) = toL l i := by simp [toL, cOf, List.getElem?_append_left hi]
  have e3 : fnOf (xs ++ [x]) (i : Int) = fnOf xs i := by simp [fnOf, List.getElem?_append_left (show i < xs.length by omega)]
  rw [e1, e2, e3]

/-- Some angles of a net that is being made, with their truth: what comes together at the nodes. -/
structure CInv (T C : Int) (l : List Ang) (xs : List Int) (S : Int → Int) : Prop where
  len : l.length = xs.length
  ang : ∀ a ∈ l, -1 ≤ a.t ∧ a.t < T ∧ -1 ≤ a.c ∧ a.c < C
  x01 : ∀ x ∈ xs, 0 ≤ x ∧ x ≤ 40
  sum : ∀ v : Int, 0 ≤ v → v < 10 → sumsP l (fnOf xs) l.length v = S v
theorem CInv.nil (T C : Int) : CInv T C [] [] (fun _ => 0) := ⟨rfl, (fun a h => by cases h), (fun x h => by cases h), fun v _ _ => rfl⟩
theorem CInv.push {T C : Int} {l : List Ang} {xs : List Int} {S S' : Int → Int} (h : CInv T C l xs S) {t c r g x : Int} (ht : -1 ≤ t ∧ t < T) (hc : -1 ≤ c ∧ c < C) (hx : 0 ≤ x ∧ x ≤ 40) (hS : ∀ v : Int, 0 ≤ v → v < 10 → S' v = S v + pushS t c x v) : CInv T C (l ++ [⟨t, c, r, g⟩]) (xs ++ [x]) S' := by
  refine ⟨by simp [h.len], fun a ha => ?_, fun y hy => ?_, fun v h0 h1 => ?_⟩
  · rcases List.mem_append.1 ha with ha | ha
    · exact h.ang a ha
    · rw [List.mem_singleton.1 ha]; exact ⟨ht.1, ht.2, hc.1, hc.2⟩
  · rcases List.mem_append.1 hy with hy | hy
    · exact h.x01 y hy
    · rw [List.mem_singleton.1 hy]; exact hx
  · rw [List.length_append, List.length_singleton, sumsP_push h.len, h.sum v h0 h1, hS v h0 h1]
theorem CInv.congr {T C : Int} {l : List Ang} {xs : List Int} {S S' : Int → Int} (h : CInv T C l xs S) (hS : ∀ v : Int, 0 ≤ v → v < 10 → S' v = S v) : CInv T C l xs S' :=
  ⟨h.len, h.ang, h.x01, fun v h0 h1 => (h.sum v h0 h1).trans (hS v h0 h1).symm⟩

/-- Before a triangle; within it, with what is left; before a circle. -/
def S1 (t : Int) (cs : Int → Int) (v : Int) : Int := if v < 5 then (if v < t then 36 else 0) else cs (v - 5)
def S2 (t left : Int) (cs : Int → Int) (v : Int) : Int := if v < 5 then (if v < t then 36 else if v = t then 36 - left else 0) else cs (v - 5)
def S3 (T c : Int) (cs : Int → Int) (v : Int) : Int := if v < 5 then (if v < T then 36 else 0) else if v - 5 < c then 72 else cs (v - 5)
theorem S2_start (t : Int) (cs : Int → Int) (v : Int) : S2 t 36 cs v = S1 t cs v := by
  unfold S1 S2
  split
  · split
    · rfl
    · split <;> omega
  · rfl
theorem S2_free {t left x : Int} {cs : Int → Int} (ht : 0 ≤ t ∧ t < 5) (v : Int) (h0 : 0 ≤ v) (h1 : v < 10) : S2 t (left - x) cs v = S2 t left cs v + pushS t (-1) x v := by
  unfold S2 pushS nodeOf
  rw [if_neg (show ¬ t = -1 by omega), if_pos (show (-1 : Int) = -1 from rfl)]
  rw [if_neg (show ¬ (10 : Int) = v by omega)]
  split
  · split
    · rw [if_neg (by omega)]; omega
    · split
      · rw [if_pos (by omega)]; omega
      · rw [if_neg (by omega)]; omega
  · rw [if_neg (by omega)]; omega
theorem S2_circ {t left x c : Int} {cs : Int → Int} (ht : 0 ≤ t ∧ t < 5) (hc : 0 ≤ c ∧ c < 5) (v : Int) (h0 : 0 ≤ v) (h1 : v < 10) : S2 t (left - x) (updG cs c (cs c + x)) v = S2 t left cs v + pushS t c x v := by
  have hp : pushS t c x v = (if t = v then x else 0) + (if 5 + c = v then x else 0) := by
    unfold pushS nodeOf
    rw [if_neg (show ¬ t = -1 by omega), if_neg (show ¬ c = -1 by omega), Int.zero_add]
  rw [hp]
  unfold S2
  by_cases hv : v < 5
  · rw [if_pos hv, if_pos hv, if_neg (show ¬ 5 + c = v by omega)]
    by_cases e1 : v < t
    · rw [if_pos e1, if_pos e1, if_neg (by omega)]; omega
    · rw [if_neg e1, if_neg e1]
      by_cases e2 : v = t
      · rw [if_pos e2, if_pos e2, if_pos e2.symm]; omega
      · rw [if_neg e2, if_neg e2, if_neg (fun e => e2 e.symm)]; omega
  · rw [if_neg hv, if_neg hv, if_neg (show ¬ t = v by omega)]
    unfold updG
    by_cases e : v - 5 = c
    · rw [if_pos e, if_pos (by omega), e]; omega
    · rw [if_neg e, if_neg (by omega)]; omega
theorem S2_end {t left : Int} {cs : Int → Int} (ht : 0 ≤ t ∧ t < 5) (v : Int) (h0 : 0 ≤ v) (h1 : v < 10) : S1 (t + 1) cs v = S2 t left cs v + pushS t (-1) left v := by
  unfold S1 S2 pushS nodeOf
  rw [if_neg (show ¬ t = -1 by omega), if_pos (show (-1 : Int) = -1 from rfl), if_neg (show ¬ (10 : Int) = v by omega)]
  split
  · split
    · by_cases e : v = t
      · rw [if_neg (by omega), if_pos e, if_pos (by omega)]; omega
      · rw [if_pos (by omega), if_neg (by omega)]; omega
    · rw [if_neg (by omega), if_neg (by omega), if_neg (by omega)]; omega
  · rw [if_neg (by omega)]; omega
theorem S3_start (T : Int) (cs : Int → Int) (v : Int) (h0 : 0 ≤ v) : S3 T 0 cs v = S1 T cs v := by
  unfold S3 S1
  split
  · rfl
  · rw [if_neg (by omega)]
/-- Within a circle: so much is missing yet. -/
def S4 (T c miss : Int) (cs : Int → Int) (v : Int) : Int := if v = 5 + c then 72 - miss else S3 T c cs v
theorem S4_start {T c : Int} {cs : Int → Int} (hc : 0 ≤ c) (v : Int) : S4 T c (72 - cs c) cs v = S3 T c cs v := by
  unfold S4
  split
  · rename_i e
    unfold S3
    rw [if_neg (by omega), if_neg (by omega), show v - 5 = c by omega]; omega
  · rfl
theorem S4_step {T c miss x : Int} {cs : Int → Int} (hc : 0 ≤ c ∧ c < 5) (v : Int) (h0 : 0 ≤ v) (h1 : v < 10) : S4 T c (miss - x) cs v = S4 T c miss cs v + pushS (-1) c x v := by
  unfold S4 pushS nodeOf
  rw [if_pos (show (-1 : Int) = -1 from rfl), if_neg (show ¬ c = -1 by omega), if_neg (show ¬ (10 : Int) = v by omega)]
  split
  · rw [if_pos (by omega)]; omega
  · rw [if_neg (by omega)]; omega
theorem S4_end {T c : Int} {cs : Int → Int} (hc : 0 ≤ c) (v : Int) : S3 T (c + 1) cs v = S4 T c 0 cs v := by
  unfold S4
  split
  · rename_i e
    unfold S3
    rw [if_neg (by omega), if_pos (by omega)]; omega
  · rename_i e
    unfold S3
    split
    · rfl
    · by_cases e2 : v - 5 < c
      · rw [if_pos (by omega), if_pos e2]
      · rw [if_neg (by omega), if_neg e2]
theorem S_alone (S : Int → Int) {x : Int} (v : Int) (h1 : v < 10) : S v = S v + pushS (-1) (-1) x v := by
  unfold pushS nodeOf
  rw [if_pos (show (-1 : Int) = -1 from rfl), if_pos (show (-1 : Int) = -1 from rfl), if_neg (show ¬ (10 : Int) = v by omega)]
  omega

/-- How an angle was read around a truth. -/
def ReadOk (err : Int) (a : Ang) (x : Int) : Prop := 1 ≤ a.g ∧ a.g ≤ 3 ∧ 0 ≤ a.r ∧ a.r ≤ 40 ∧ max 0 (a.r - err * a.g) ≤ x ∧ x ≤ min 40 (a.r + err * a.g)
theorem read_ok {err g x m : Int} (he : 0 ≤ err) (hg : 1 ≤ g ∧ g ≤ 3) (hx : 0 ≤ x ∧ x ≤ 40) (hm : 0 ≤ m ∧ m ≤ 2 * (err * g)) {t c : Int} : ReadOk err ⟨t, c, max 0 (min 40 (x + m - err * g)), g⟩ x := by
  have h : 0 ≤ err * g := Int.mul_nonneg he (by omega)
  unfold ReadOk
  dsimp only
  generalize err * g = wd at h hm ⊢
  omega

theorem set_read {l4 : List Ang} {k : Nat} (hk : k < l4.length) (G R : Int) (hk' : k < (l4.set k (putF l4[k] 3 G)).length) (j : Nat) (h : j < ((l4.set k (putF l4[k] 3 G)).set k (putF ((l4.set k (putF l4[k] 3 G))[k]) 2 R)).length) :
    ∃ h4 : j < l4.length, ((l4.set k (putF l4[k] 3 G)).set k (putF ((l4.set k (putF l4[k] 3 G))[k]) 2 R))[j] = if j = k then ⟨l4[k].t, l4[k].c, R, G⟩ else l4[j] := by
  have h4 : j < l4.length := by simpa using h
  refine ⟨h4, ?_⟩
  by_cases e : j = k
  · subst e
    rw [if_pos rfl]
    simp [putF]
  · rw [if_neg e, List.getElem_set_ne (fun h => e h.symm), List.getElem_set_ne (fun h => e h.symm)]
theorem CInv.same {T C : Int} {l l4 : List Ang} {xs : List Int} {S : Int → Int} (h : CInv T C l xs S) (hl : l4.length = l.length) (htc : ∀ j (h : j < l4.length) (h0 : j < l.length), l4[j].t = l[j].t ∧ l4[j].c = l[j].c) : CInv T C l4 xs S := by
  refine ⟨hl.trans h.len, fun a ha => ?_, h.x01, fun v h0 h1 => ?_⟩
  · obtain ⟨j, hj, rfl⟩ := List.mem_iff_getElem.1 ha
    obtain ⟨e1, e2⟩ := htc j hj (by omega)
    rw [e1, e2]
    exact h.ang _ (List.getElem_mem _)
  · rw [← h.sum v h0 h1, hl]
    unfold sumsP
    refine sumR_congr fun i hi => ?_
    obtain ⟨e1, e2⟩ := htc i (by omega) hi
    rw [frL_at (by omega), frL_at hi, toL_at (by omega), toL_at hi, e1, e2]
theorem clamp_eq (y : Int) : (if 0 < (if y < 40 then y else 40) then (if y < 40 then y else 40) else 0) = max 0 (min 40 y) := by
  split <;> split <;> omega

/-- What Closed comes to: a net with too many angles, or a valid one with a truth within the error. -/
def ClosedOk (T C err : Int) (l : List Ang) (xs : List Int) : Prop :=
  l.length = xs.length ∧ ((l.length = 13 ∧ faultL l T C = 3) ∨ (NetOk l T C ∧ truthB l T C err xs = true))
theorem closed_ok {T C err : Int} {l : List Ang} {xs : List Int} {cs : Int → Int} (h : CInv T C l xs (S3 T C cs)) (hT : 0 ≤ T ∧ T ≤ 3) (hC : 0 ≤ C ∧ C ≤ 2) (he : 0 ≤ err ∧ err ≤ 40) (hpos : 0 < l.length) (h13 : l.length ≤ 13) (hr : ∀ i (hi : i < l.length), i < 12 → ReadOk err l[i] (fnOf xs i)) : ClosedOk T C err l xs := by
  refine ⟨h.len, ?_⟩
  by_cases h12 : l.length ≤ 12
  · right
    have hok : NetOk l T C := by
      refine ⟨hpos, h12, by omega, by omega, by omega, by omega, fun a ha => ?_⟩
      obtain ⟨i, hi, rfl⟩ := List.mem_iff_getElem.1 ha
      have h1 := h.ang _ ha
      obtain ⟨g0, g1, r0, r1, _, _⟩ := hr i hi (by omega)
      exact ⟨h1.1, h1.2.1, h1.2.2.1, h1.2.2.2, r0, r1, g0, g1⟩
    have hask : askedL l T C err = 0 := by unfold askedL; rw [if_neg (by rw [faultL_zero.2 hok]; simp), if_pos he]
    refine ⟨hok, truthB_iff.2 ⟨hask, h.len.symm, (truth_iff hok _).2 ⟨?_, ?_⟩⟩⟩
    · unfold roomsB
      rw [List.all_eq_true]
      intro i hi
      have hi' := List.mem_range.1 hi
      obtain ⟨g0, g1, r0, r1, a1, a2⟩ := hr i hi' (by omega)
      rw [inB_true, roomLo_at hi', roomHi_at hi']
      simp only [List.contains_nil, Bool.false_eq_true, if_false]
      exact ⟨a1, a2⟩
    · unfold sumsB
      rw [Bool.and_eq_true, List.all_eq_true, List.all_eq_true]
      constructor
      · intro t ht
        have ht' := List.mem_range.1 ht
        rw [beq_iff_eq, h.sum t (by omega) (by omega)]
        unfold S3
        rw [if_pos (by omega), if_pos (by omega)]
      · intro c hc
        have hc' := List.mem_range.1 hc
        rw [beq_iff_eq, h.sum (5 + c) (by omega) (by omega)]
        unfold S3
        rw [if_neg (by omega), if_pos (by omega)]
  · left
    refine ⟨by omega, ?_⟩
    unfold faultL
    rw [if_pos (.inl (by omega))]


theorem apart_types {w : World} {b b' e e' s s' n m : Nat} {v u : Value} {xs ys : List Value} (h : w.ownsRow b e s v n xs) (k : w.ownsRow b' e' s' u m ys) (he : e ≠ e') : v.ownBlock = none ∨ v.ownBlock ≠ u.ownBlock := by
  obtain ⟨_, ⟨rfl, _⟩ | ⟨g, cap, cur, rfl, _, h1, _⟩⟩ := h
  · exact .inl rfl
  · obtain ⟨_, ⟨rfl, _⟩ | ⟨g', cap', cur', rfl, _, k1, _⟩⟩ := k
    · right; simp [Value.ownBlock]
    · right
      intro hh
      have e1 : g = g' := by simpa [Value.ownBlock] using hh
      subst e1
      rw [h1] at k1
      cases k1
      exact he rfl

section
variable {w : World} {ops : Array Oper} {rest : List Oper} {o : Oper} {a : Act} {Q : Exit → Act → World → Prop}
theorem wpList_app_ang (hgd : o.guard = none) (s x : Operand) (ho : o.op = .call { callee := .builtin .append, args := #[s, x], argTypes := #[22, 22] }) (base : Nat) (v : Value) (l : List Ang) (y : Ang) (B : Nat)
    (hs : a.eval s = v) (hown : w.ownsRow base 71 4 v l.length (flatA l)) (hx : a.eval x = .slice (some ⟨B, 0, none⟩) 1 1) (hB : w.heap[B]? = some (.cells #[.int .i64 y.t, .int .i64 y.c, .int .i64 y.r, .int .i64 y.g] 71 (0, 0))) (hl : l.length ≤ 1000000) (hbase : base ≤ w.heap.size)
    (h : ∀ g cap w', w'.ownsRow base 71 4 (.slice (some ⟨g, 0, none⟩) (l.length + 1) cap) (l.length + 1) (flatA (l ++ [y])) → w.grownBy w' v.ownBlock → g < w'.heap.size → wpList Try.prog ops Q rest (a.put o.dst (.slice (some ⟨g, 0, none⟩) (l.length + 1) cap)) w') : wpList Try.prog ops Q (o :: rest) a w := by
  obtain ⟨i0, hi0, hz0, hz1, hz2⟩ := info_parts Try.info71
  refine wpList_append_lies w hgd s x 22 ho base 71 i0 _ 4 32 Try.underlying22 hi0 hz0 hz1 hz2 rfl (by decide) v l.length _ hs hown ⟨B, 0, none⟩ 1 1 [.int .i64 y.t, .int .i64 y.c, .int .i64 y.r, .int .i64 y.g] hx rfl (World.news_of_block (cs := #[.int .i64 y.t, .int .i64 y.c, .int .i64 y.r, .int .i64 y.g]) (t := 71) (fr := (0, 0)) hB) (by simp [Value.oneCell']) (by omega) (by unfold maxLen; omega) (by omega) hbase _ rfl ?_
  intro g cap w' h1 h2 h3 h4
  refine h g cap w' ?_ h2 h4
  have : flatA (l ++ [y]) = flatA l ++ [.int .i64 y.t, .int .i64 y.c, .int .i64 y.r, .int .i64 y.g] := by simp [flatA]
  rw [this]; exact h1
theorem wpList_app_int (hgd : o.guard = none) (s x : Operand) (ho : o.op = .call { callee := .builtin .append, args := #[s, x], argTypes := #[25, 25] }) (base : Nat) (v : Value) (xs : List Int) (y : Int) (B : Nat)
    (hs : a.eval s = v) (hown : w.ownsRow base 3 1 v xs.length (xs.map (Value.int .i64))) (hx : a.eval x = .slice (some ⟨B, 0, none⟩) 1 1) (hB : w.heap[B]? = some (.cells #[.int .i64 y] 3 (0, 0))) (hl : xs.length ≤ 1000000) (hbase : base ≤ w.heap.size)
    (h : ∀ g cap w', w'.ownsRow base 3 1 (.slice (some ⟨g, 0, none⟩) (xs.length + 1) cap) (xs.length + 1) (xs.map (Value.int .i64) ++ [.int .i64 y]) → w.grownBy w' v.ownBlock → g < w'.heap.size → wpList Try.prog ops Q rest (a.put o.dst (.slice (some ⟨g, 0, none⟩) (xs.length + 1) cap)) w') : wpList Try.prog ops Q (o :: rest) a w := by
  obtain ⟨i0, hi0, hz0, hz1, hz2⟩ := info_parts Try.info3
  refine wpList_append_lies w hgd s x 25 ho base 3 i0 (.int .i64 0) 1 8 Try.underlying25 hi0 hz0 hz1 hz2 rfl (by decide) v xs.length _ hs hown ⟨B, 0, none⟩ 1 1 [.int .i64 y] hx rfl (World.news_of_block (cs := #[.int .i64 y]) (t := 3) (fr := (0, 0)) hB) (by simp [Value.oneCell']) (by omega) (by unfold maxLen; omega) (by omega) hbase _ rfl ?_
  intro g cap w' h1 h2 h3 h4
  exact h g cap w' h1 h2 h4
end

/-- The net that is being made, its circles, its angles and their truth. -/
structure CMem (w : World) (Bn Bc : Nat) (T C : Int) (W : World) (va vt : Value) (l : List Ang) (xs : List Int) (cs : Int → Int) : Prop where
  below : Below w.heap.size w W
  net : W.heap[Bn]? = some (.cells #[va, .int .i64 T, .int .i64 C] 24 (0, 0))
  circ : W.heap[Bc]? = some (.cells #[.int .i64 (cs 0), .int .i64 (cs 1), .int .i64 (cs 2)] 126 (0, 0))
  angs : W.ownsRow (Bc + 1) 71 4 va l.length (flatA l)
  tr : W.ownsRow (Bc + 1) 3 1 vt xs.length (xs.map (Value.int .i64))
  b0 : w.heap.size ≤ Bn
  b1 : Bn < Bc
section
variable {w W W' : World} {Bn Bc : Nat} {T C : Int} {va vt : Value} {l : List Ang} {xs : List Int} {cs : Int → Int}
theorem CMem.lt (h : CMem w Bn Bc T C W va vt l xs cs) : Bn < W.heap.size ∧ Bc < W.heap.size := ⟨(Array.getElem?_eq_some_iff.1 h.net).1, (Array.getElem?_eq_some_iff.1 h.circ).1⟩
theorem CMem.keep (h : CMem w Bn Bc T C W va vt l xs cs) (hb : Below W.heap.size W W') : CMem w Bn Bc T C W' va vt l xs cs := by
  obtain ⟨l1, l2⟩ := h.lt
  have hg : W.grownBy W' none := ⟨hb.os, hb.tape, hb.output, hb.size, fun j hj _ => hb.block j hj⟩
  exact ⟨h.below.trans (hb.mono h.below.size), (hb.block _ l1).trans h.net, (hb.block _ l2).trans h.circ, h.angs.kept hg (own_none _), h.tr.kept hg (own_none _), h.b0, h.b1⟩
theorem CMem.slice (h : CMem w Bn Bc T C W va vt l xs cs) : ∃ A cap, va = .slice A l.length cap ∧ (0 < l.length → ∃ g, A = some ⟨g, 0, none⟩) := by
  obtain ⟨_, ⟨rfl, h0⟩ | ⟨g, cap, cur, rfl, _⟩⟩ := h.angs
  · exact ⟨none, 0, by rw [h0], fun h => by omega⟩
  · exact ⟨_, _, rfl, fun _ => ⟨g, rfl⟩⟩
theorem CMem.cells (h : CMem w Bn Bc T C W va vt l xs cs) : W.cell? ⟨Bn, 0, none⟩ = some va ∧ W.cell? ⟨Bn, 1, none⟩ = some (.int .i64 T) ∧ W.cell? ⟨Bn, 2, none⟩ = some (.int .i64 C) ∧ W.frozen? ⟨Bn, 0, none⟩ = false := by
  have := h.net
  refine ⟨?_, ?_, ?_, ?_⟩ <;> simp [World.cell?, World.frozen?, this]
theorem CMem.circle (h : CMem w Bn Bc T C W va vt l xs cs) {c : Nat} (hc : c < 3) : W.cell? ⟨Bc, c, none⟩ = some (.int .i64 (cs c)) ∧ W.frozen? ⟨Bc, c, none⟩ = false := by
  have := h.circ
  obtain rfl | rfl | rfl : c = 0 ∨ c = 1 ∨ c = 2 := by omega
  all_goals constructor <;> simp [World.cell?, World.frozen?, this]
theorem CMem.below1 (h : CMem w Bn Bc T C W va vt l xs cs) {oA : Obj} {w1 : World} (g1 : (W.alloc oA).grownBy w1 va.ownBlock) : Below w.heap.size w w1 := by
  obtain ⟨l1, l2⟩ := h.lt
  have hb0 := h.b0
  have hb1 := h.b1
  have z0 : (W.alloc oA).heap.size = W.heap.size + 1 := by simp
  have s1 := g1.size
  exact h.below.trans ⟨g1.os, g1.tape, g1.output, by have := h.below.size; omega, fun j hj => (g1.block j (by omega) (fun e => by have := h.angs.lt j e.symm; omega)).trans (Below.heap_alloc _ _ _ (by omega))⟩
theorem row_not_ang {w : World} {b n g : Nat} {v : Value} {xs : List Value} {l : List Ang} (h : w.ownsRow b 3 1 v n xs) (k : AngRow w g l) : v.ownBlock = none ∨ v.ownBlock ≠ some g := by
  obtain ⟨_, ⟨rfl, _⟩ | ⟨g', cap, cur, rfl, _, h1, _⟩⟩ := h
  · exact .inl rfl
  · right
    intro hh
    have e : g' = g := by simpa [Value.ownBlock] using hh
    subst e
    obtain ⟨c2, h2, _⟩ := k
    rw [h1] at h2
    cases h2
/-- A circle has grown. -/
theorem CMem.turn (h : CMem w Bn Bc T C W va vt l xs cs) {c : Nat} (hc : c < 3) (x : Int) : CMem w Bn Bc T C (W.setCell ⟨Bc, c, none⟩ (.int .i64 x)) va vt l xs (updG cs c x) := by
  have hlt := h.lt
  have hb1 := h.b1
  have hb0 := h.b0
  have ho : ∀ j, j ≠ Bc → (W.setCell ⟨Bc, c, none⟩ (.int .i64 x)).heap[j]? = W.heap[j]? := fun j hj => Below.heap_setCell _ _ _ _ hj
  have hg : W.grownBy (W.setCell ⟨Bc, c, none⟩ (.int .i64 x)) (some Bc) := ⟨rfl, rfl, rfl, by simp, fun j _ hj => ho j (fun e => hj (by rw [e]))⟩
  have hrow : ∀ {e s n : Nat} {v : Value} {ys : List Value}, W.ownsRow (Bc + 1) e s v n ys → v.ownBlock = none ∨ v.ownBlock ≠ some Bc := fun {e s n v ys} hh => by
    cases hv : v.ownBlock with
    | none => exact .inl rfl
    | some j => right; intro e; have := hh.lt j hv; cases e; omega
  refine ⟨h.below.setCell (by show w.heap.size ≤ Bc; omega) _, (ho Bn (by omega)).trans h.net, ?_, h.angs.kept hg (hrow h.angs), h.tr.kept hg (hrow h.tr), h.b0, h.b1⟩
  have := h.circ
  obtain rfl | rfl | rfl : c = 0 ∨ c = 1 ∨ c = 2 := by omega
  all_goals simp [World.setCell, Array.getElem?_modify, this, updG]
/-- One more angle with its truth. -/
theorem CMem.push (h : CMem w Bn Bc T C W va vt l xs cs) {oA oI : Obj} {y : Ang} {x : Int} {g cap g2 cap2 : Nat} {w1 w2 : World}
    (o1 : w1.ownsRow (Bc + 1) 71 4 (.slice (some ⟨g, 0, none⟩) (l.length + 1) cap) (l.length + 1) (flatA (l ++ [y]))) (g1 : (W.alloc oA).grownBy w1 va.ownBlock)
    (o2 : w2.ownsRow (Bc + 1) 3 1 (.slice (some ⟨g2, 0, none⟩) (xs.length + 1) cap2) (xs.length + 1) (xs.map (Value.int .i64) ++ [.int .i64 x])) (g2' : (w1.alloc oI).grownBy w2 vt.ownBlock) :
    w2.heap[Bn]? = some (.cells #[va, .int .i64 T, .int .i64 C] 24 (0, 0)) ∧
    CMem w Bn Bc T C (w2.setCell ⟨Bn, 0, none⟩ (.slice (some ⟨g, 0, none⟩) (l.length + 1) cap)) (.slice (some ⟨g, 0, none⟩) (l.length + 1) cap) (.slice (some ⟨g2, 0, none⟩) (xs.length + 1) cap2) (l ++ [y]) (xs ++ [x]) cs := by
  obtain ⟨l1, l2⟩ := h.lt
  have hb1 := h.b1
  have hb0 := h.b0
  have z0 : (W.alloc oA).heap.size = W.heap.size + 1 := by simp
  have z1 : (w1.alloc oI).heap.size = w1.heap.size + 1 := by simp
  have s1 := g1.size
  have s2 := g2'.size
  have n1 : ∀ j, j ≤ Bc → some j ≠ va.ownBlock := fun j hj e => by have := h.angs.lt j e.symm; omega
  have n2 : ∀ j, j ≤ Bc → some j ≠ vt.ownBlock := fun j hj e => by have := h.tr.lt j e.symm; omega
  have blk : ∀ j, j ≤ Bc → w2.heap[j]? = W.heap[j]? := fun j hj => (g2'.block j (by omega) (n2 j hj)).trans ((Below.heap_alloc _ _ _ (by omega)).trans ((g1.block j (by omega) (n1 j hj)).trans (Below.heap_alloc _ _ _ (by omega))))
  have hnet := (blk Bn (by omega)).trans h.net
  have tr1 := (h.tr.alloc oA).kept g1 (apart_types (h.tr.alloc oA) (h.angs.alloc oA) (by decide))
  have an2 := (o1.alloc oI).kept g2' (apart_types (o1.alloc oI) (tr1.alloc oI) (by decide))
  have hbe : Below w.heap.size w w2 := h.below.trans ⟨g2'.os.trans g1.os, g2'.tape.trans g1.tape, g2'.output.trans g1.output, by omega, fun j hj => blk j (by omega)⟩
  refine ⟨hnet, ?_⟩
  have ho : ∀ j, j ≠ Bn → (w2.setCell ⟨Bn, 0, none⟩ (.slice (some ⟨g, 0, none⟩) (l.length + 1) cap)).heap[j]? = w2.heap[j]? := fun j hj => Below.heap_setCell _ _ _ _ hj
  have hg : w2.grownBy (w2.setCell ⟨Bn, 0, none⟩ (.slice (some ⟨g, 0, none⟩) (l.length + 1) cap)) (some Bn) := ⟨rfl, rfl, rfl, by simp, fun j _ hj => ho j (fun e => hj (by rw [e]))⟩
  have hrow : ∀ {e s n : Nat} {v : Value} {ys : List Value}, w2.ownsRow (Bc + 1) e s v n ys → v.ownBlock = none ∨ v.ownBlock ≠ some Bn := fun {e s n v ys} hh => by
    cases hv : v.ownBlock with
    | none => exact .inl rfl
    | some j => right; intro e; have := hh.lt j hv; cases e; omega
  refine ⟨hbe.setCell (by show w.heap.size ≤ Bn; omega) _, ?_, (ho Bc (by omega)).trans ((blk Bc (by omega)).trans h.circ), by rw [List.length_append]; exact an2.kept hg (hrow an2), by rw [List.length_append, List.map_append]; exact o2.kept hg (hrow o2), h.b0, h.b1⟩
  simp [World.setCell, Array.getElem?_modify, hnet]
end
end Go.Proofs.Ytkloaeaepjoijaa

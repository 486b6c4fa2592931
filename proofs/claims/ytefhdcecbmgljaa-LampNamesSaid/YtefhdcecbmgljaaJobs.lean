/-
  The two searches: what they are, and their functions.
-/
import Derived.Test.YtefhdcecbmgljaaJob
set_option linter.all false
namespace Go.Proofs.Ytefhdcecbmgljaa
open Go.RowKit Go.WalkArith

/-- Which cans for some wicks; which wicks for some cans. -/
def jobD (wk : List Int) : Job := ⟨fun _ => 0, fun _ => 2, fun _ n => n, fun _ n => n, fun i _ => atL wk i⟩
def jobT (s : St) (cs : List Int) : Job := ⟨fun i => (ntAt s i).a, fun i => (ntAt s i).b, fun i n => -n * (ntAt s i).h, fun i _ => atL cs i, fun _ n => n⟩
theorem jobD_ok (wk : List Int) : JobOk (jobD wk) := fun i n h1 h2 => by simp only [jobD] at *; omega
theorem jobD_s {s : St} {wk : List Int} (hok : StOk s) (hw : wicksB s wk = true) : JobS s (jobD wk) := by
  obtain ⟨h1, h2⟩ := wicksB_true.1 hw
  refine ⟨fun i hi => by simp [jobD], fun i n hi h3 h4 => ?_, fun i n hi h3 h4 => by simp only [jobD] at *; omega⟩
  have := h2 i (by omega)
  have := hok.nt i hi
  simp only [jobD] at *
  omega
theorem mulb {n h : Int} (h1 : 0 ≤ n ∧ n ≤ 4) (h2 : 0 ≤ h ∧ h ≤ 14) : 0 ≤ n * h ∧ n * h ≤ 56 := by
  have a := Int.mul_nonneg h1.1 h2.1
  have b : n * h ≤ 4 * 14 := Int.mul_le_mul h1.2 h2.2 h2.1 (by omega)
  omega
theorem ntAt_out {s : St} {i : Nat} (h : ¬ i < s.ns.length) : ntAt s i = ⟨0, 0, 0, 0, 0⟩ := by
  unfold ntAt
  rw [List.getD_eq_getElem?_getD, List.getElem?_eq_none (by omega)]
  rfl
theorem jobT_ok {s : St} (hok : StOk s) (cs : List Int) : JobOk (jobT s cs) := fun i n h1 h2 => by
  simp only [jobT] at *
  by_cases hi : i < s.ns.length
  · have := hok.nt i hi
    have := mulb (n := n) (h := (ntAt s i).h) (by omega) (by omega)
    rw [Int.neg_mul]; omega
  · rw [ntAt_out hi] at *
    simp
theorem jobT_s {s : St} {cs : List Int} (hok : StOk s) (hc : cansB s cs = true) : JobS s (jobT s cs) := by
  obtain ⟨h1, h2⟩ := cansB_true.1 hc
  refine ⟨fun i hi => ?_, fun i n hi h3 h4 => ?_, fun i n hi h3 h4 => jobT_ok hok cs i n h3 h4⟩
  · have := hok.nt i hi
    simp only [jobT]; omega
  · have := h2 i (by omega)
    have := hok.nt i hi
    simp only [jobT] at *
    omega

theorem IntsAt.blocks' {W W' : World} {v : Value} {xs : List Int} (h : IntsAt W v xs) (hk : ∀ j, j < W.heap.size → W'.heap[j]? = W.heap[j]?) : IntsAt W' v xs := by
  obtain ⟨A, cap, h1, h2⟩ := h
  refine ⟨A, cap, h1, ?_⟩
  rcases h2 with h2 | ⟨b, o, h3, h4⟩
  · exact .inl h2
  · exact .inr ⟨b, o, h3, fun i hi => (World.cell?_of_block (a := ⟨b, o + i, none⟩) (hk b (World.block_lt_of_cell? W _ (h4 i hi)))).trans (h4 i hi)⟩

theorem zero_any (n : Int) (w : World) : Calls Try.prog 78 #[.int .i64 n] w fun e w' => e = .returned (.int .i64 0) ∧ Below w.heap.size w w' := by
  go_enter Try.func78, Try.ntmps78
  go_wp2
  go_ret
  exact ⟨rfl, Below.refl _ _⟩
theorem two_any (n : Int) (w : World) : Calls Try.prog 79 #[.int .i64 n] w fun e w' => e = .returned (.int .i64 2) ∧ Below w.heap.size w w' := by
  go_enter Try.func79, Try.ntmps79
  go_wp2
  go_ret
  exact ⟨rfl, Below.refl _ _⟩
theorem costD_any (i n : Int) (w : World) : Calls Try.prog 80 #[.int .i64 i, .int .i64 n] w fun e w' => e = .returned (.int .i64 n) ∧ Below w.heap.size w w' := by
  go_enter Try.func80, Try.ntmps80
  go_wp2
  go_ret
  exact ⟨rfl, Below.refl _ _⟩
theorem doesD_any (i : Nat) (n : Int) (Bl : Nat) (A : Option Addr) (cp : Nat) (l : List Int) (w : World) (hi : i < l.length) (hl : w.cell? ⟨Bl, 0, none⟩ = some (.slice A l.length cp)) (hv : IntsAt w (.slice A l.length cp) l) :
    Calls Try.prog 81 #[.int .i64 i, .int .i64 n, .pointer (some ⟨Bl, 0, none⟩)] w fun e w' => e = .returned (.tuple #[.int .i64 n, .int .i64 (atL l i)]) ∧ Below w.heap.size w w' := by
  obtain ⟨b, o, rfl, e0⟩ := hv.at hi
  have i0 : (0 : Int) ≤ (i : Int) := by omega
  have i1 : (i : Int) < (l.length : Int) := by omega
  clear hv
  obtain ⟨X, hX⟩ : ∃ X, atL l i = X := ⟨_, rfl⟩
  rw [hX] at e0 ⊢
  clear hX
  go_enter Try.func81, Try.ntmps81
  go_wp2
  go_quiet (fail)
  go_wp2
  go_ret2
  exact ⟨rfl, (Below.refl _ _).drewN _⟩
theorem loT_any (i : Nat) (s : St) (A : Option Addr) (cp Bs : Nat) (w : World) (hi : i < s.ns.length) (hs : w.heap[Bs]? = some (.cells #[.int .i64 s.cap, .int .i64 s.can, .int .i64 s.sl, .int .i64 s.sh, .slice A s.ns.length cp] 39 (0, 0))) (hA : NtsAt w A s.ns) :
    Calls Try.prog 85 #[.int .i64 i, .pointer (some ⟨Bs, 0, none⟩)] w fun e w' => e = .returned (.int .i64 (ntAt s i).a) ∧ Below w.heap.size w w' := by
  obtain ⟨b, o, rfl, a0, a1, a2, a3, a4⟩ := hA.at hi
  rw [← ntAt_at hi] at a1
  have i0 : (0 : Int) ≤ (i : Int) := by omega
  have i1 : (i : Int) < (s.ns.length : Int) := by omega
  have c4 : w.cell? ⟨Bs, 4, none⟩ = some (.slice (some ⟨b, o, none⟩) s.ns.length cp) := by simp [World.cell?, hs]
  clear hA a0 a2 a3 a4 hs
  obtain ⟨X, hX⟩ : ∃ X, (ntAt s i).a = X := ⟨_, rfl⟩
  rw [hX] at a1 ⊢
  clear hX
  go_enter Try.func85, Try.ntmps85
  go_wp2
  go_ret
  exact ⟨rfl, Below.refl _ _⟩
theorem hiT_any (i : Nat) (s : St) (A : Option Addr) (cp Bs : Nat) (w : World) (hi : i < s.ns.length) (hs : w.heap[Bs]? = some (.cells #[.int .i64 s.cap, .int .i64 s.can, .int .i64 s.sl, .int .i64 s.sh, .slice A s.ns.length cp] 39 (0, 0))) (hA : NtsAt w A s.ns) :
    Calls Try.prog 86 #[.int .i64 i, .pointer (some ⟨Bs, 0, none⟩)] w fun e w' => e = .returned (.int .i64 (ntAt s i).b) ∧ Below w.heap.size w w' := by
  obtain ⟨b, o, rfl, a0, a1, a2, a3, a4⟩ := hA.at hi
  rw [← ntAt_at hi] at a2
  have i0 : (0 : Int) ≤ (i : Int) := by omega
  have i1 : (i : Int) < (s.ns.length : Int) := by omega
  have c4 : w.cell? ⟨Bs, 4, none⟩ = some (.slice (some ⟨b, o, none⟩) s.ns.length cp) := by simp [World.cell?, hs]
  clear hA a0 a1 a3 a4 hs
  obtain ⟨X, hX⟩ : ∃ X, (ntAt s i).b = X := ⟨_, rfl⟩
  rw [hX] at a2 ⊢
  clear hX
  go_enter Try.func86, Try.ntmps86
  go_wp2
  go_ret
  exact ⟨rfl, Below.refl _ _⟩
theorem costT_any (i : Nat) (n : Int) (s : St) (A : Option Addr) (cp Bs : Nat) (w : World) (hok : StOk s) (hi : i < s.ns.length) (hn : 0 ≤ n ∧ n ≤ 4) (hs : w.heap[Bs]? = some (.cells #[.int .i64 s.cap, .int .i64 s.can, .int .i64 s.sl, .int .i64 s.sh, .slice A s.ns.length cp] 39 (0, 0))) (hA : NtsAt w A s.ns) :
    Calls Try.prog 87 #[.int .i64 i, .int .i64 n, .pointer (some ⟨Bs, 0, none⟩)] w fun e w' => e = .returned (.int .i64 (-n * (ntAt s i).h)) ∧ Below w.heap.size w w' := by
  obtain ⟨b, o, rfl, a0, a1, a2, a3, a4⟩ := hA.at hi
  rw [← ntAt_at hi] at a0
  have hnt := hok.nt i hi
  have i0 : (0 : Int) ≤ (i : Int) := by omega
  have i1 : (i : Int) < (s.ns.length : Int) := by omega
  have c4 : w.cell? ⟨Bs, 4, none⟩ = some (.slice (some ⟨b, o, none⟩) s.ns.length cp) := by simp [World.cell?, hs]
  have hlen := hok.len
  clear hA a1 a2 a3 a4 hs hok
  obtain ⟨X, hX⟩ : ∃ X, (ntAt s i).h = X := ⟨_, rfl⟩
  rw [hX] at a0 hnt ⊢
  have hm := mulb (n := n) (h := X) hn (by omega)
  obtain ⟨Y, hY⟩ : ∃ Y, -n * X = Y := ⟨_, rfl⟩
  have hYb : -60 ≤ Y ∧ Y ≤ 0 := by rw [← hY, Int.neg_mul]; omega
  have HY := Lib.hid hY
  have hwn : IntKind.i64.wrap (-n) = -n := IntWalk.i64_in _ (by omega)
  have hwm : IntKind.i64.wrap (-n * X) = Y := by rw [hY]; exact IntWalk.i64_in _ (by omega)
  have hwm2 : IntKind.i64.wrap (-(n * X)) = Y := by rw [← Int.neg_mul, hY]; exact IntWalk.i64_in _ (by omega)
  rw [hY]
  clear hX hY hm
  go_enter Try.func87, Try.ntmps87
  go_wp2
  go_ret
  exact ⟨rfl, Below.refl _ _⟩
theorem doesT_any (i : Nat) (n : Int) (Bl : Nat) (A : Option Addr) (cp : Nat) (l : List Int) (w : World) (hi : i < l.length) (hl : w.cell? ⟨Bl, 0, none⟩ = some (.slice A l.length cp)) (hv : IntsAt w (.slice A l.length cp) l) :
    Calls Try.prog 88 #[.int .i64 i, .int .i64 n, .pointer (some ⟨Bl, 0, none⟩)] w fun e w' => e = .returned (.tuple #[.int .i64 (atL l i), .int .i64 n]) ∧ Below w.heap.size w w' := by
  obtain ⟨b, o, rfl, e0⟩ := hv.at hi
  have i0 : (0 : Int) ≤ (i : Int) := by omega
  have i1 : (i : Int) < (l.length : Int) := by omega
  clear hv
  obtain ⟨X, hX⟩ : ∃ X, atL l i = X := ⟨_, rfl⟩
  rw [hX] at e0 ⊢
  clear hX
  go_enter Try.func88, Try.ntmps88
  go_wp2
  go_ret2
  exact ⟨rfl, Below.refl _ _⟩

theorem jobFD {w0 : World} {s : St} {wk : List Int} {Bl : Nat} {A : Option Addr} {cp : Nat} (Bs : Nat) (hw : wicksB s wk = true) (hl : w0.heap[Bl]? = some (.cells #[.slice A wk.length cp] 27 (0, 0))) (hv : IntsAt w0 (.slice A wk.length cp) wk) : JobFD w0 s (jobD wk) Bs Bl := by
  have hlen := (wicksB_true.1 hw).1
  refine ⟨fun X hX i hi => zero_any _ _, fun X hX i hi => two_any _ _, fun X hX i n hi h1 h2 => costD_any _ _ _, fun X hX i n hi h1 h2 => ?_⟩
  have hc : X.cell? ⟨Bl, 0, none⟩ = some (.slice A wk.length cp) := by
    have := (hX Bl (Array.getElem?_eq_some_iff.1 hl).1).trans hl
    simp [World.cell?, this]
  exact doesD_any i n Bl A cp wk X (by omega) hc (hv.blocks' hX)
theorem jobFT {w0 : World} {s : St} {cs : List Int} {Bs Bl : Nat} {A Al : Option Addr} {cp cpl : Nat} (hok : StOk s) (hc : cansB s cs = true) (hs : w0.heap[Bs]? = some (.cells #[.int .i64 s.cap, .int .i64 s.can, .int .i64 s.sl, .int .i64 s.sh, .slice A s.ns.length cp] 39 (0, 0))) (hA : NtsAt w0 A s.ns) (hl : w0.heap[Bl]? = some (.cells #[.slice Al cs.length cpl] 27 (0, 0))) (hv : IntsAt w0 (.slice Al cs.length cpl) cs) : JobFT w0 s (jobT s cs) Bs Bl := by
  have hlen := (cansB_true.1 hc).1
  have hst : ∀ X : World, (∀ j, j < w0.heap.size → X.heap[j]? = w0.heap[j]?) → X.heap[Bs]? = some (.cells #[.int .i64 s.cap, .int .i64 s.can, .int .i64 s.sl, .int .i64 s.sh, .slice A s.ns.length cp] 39 (0, 0)) := fun X hX => (hX Bs (Array.getElem?_eq_some_iff.1 hs).1).trans hs
  refine ⟨fun X hX i hi => loT_any i s A cp Bs X hi (hst X hX) (hA.blocks' hX), fun X hX i hi => hiT_any i s A cp Bs X hi (hst X hX) (hA.blocks' hX), fun X hX i n hi h1 h2 => ?_, fun X hX i n hi h1 h2 => ?_⟩
  · have := hok.nt i hi
    simp only [jobT] at h1 h2
    exact costT_any i n s A cp Bs X hok hi (by omega) (hst X hX) (hA.blocks' hX)
  · have hc : X.cell? ⟨Bl, 0, none⟩ = some (.slice Al cs.length cpl) := by
      have := (hX Bl (Array.getElem?_eq_some_iff.1 hl).1).trans hl
      simp [World.cell?, this]
    exact doesT_any i n Bl Al cpl cs X (by omega) hc (hv.blocks' hX)
end Go.Proofs.Ytefhdcecbmgljaa

/-
  Play.
-/
import Derived.Test.YtefhdcecbmgljaaDark2
set_option linter.all false
namespace Go.Proofs.Ytefhdcecbmgljaa
open Go.RowKit Go.WalkArith

/-- What is left, what is given back, which nights are lit. -/
def leftsL (s : St) (c k b : Nat → Int) (t : Int) (m : Nat) : List Int := (List.range m).map fun i => oilF s c k b t (i + 1)
def backsL (s : St) (c k b : Nat → Int) (t : Int) (m : Nat) : List Int := (List.range m).map fun i => oilF s c k b t i + c i * s.can - nowO s (c i) (oilF s c k b t i)
def litsL (s : St) (c k b : Nat → Int) (t : Int) (m : Nat) : List Bool := (List.range m).map fun i => litO s i (c i) (k i) (b i) (oilF s c k b t i)
theorem leftsL_len (s : St) (c k b : Nat → Int) (t : Int) (m : Nat) : (leftsL s c k b t m).length = m := by simp [leftsL]
theorem backsL_len (s : St) (c k b : Nat → Int) (t : Int) (m : Nat) : (backsL s c k b t m).length = m := by simp [backsL]
theorem litsL_len (s : St) (c k b : Nat → Int) (t : Int) (m : Nat) : (litsL s c k b t m).length = m := by simp [litsL]
theorem leftsL_succ (s : St) (c k b : Nat → Int) (t : Int) (m : Nat) : leftsL s c k b t (m + 1) = leftsL s c k b t m ++ [leftO s m (c m) (k m) (b m) (oilF s c k b t m)] := by simp [leftsL, List.range_succ, oilF]
theorem backsL_succ (s : St) (c k b : Nat → Int) (t : Int) (m : Nat) : backsL s c k b t (m + 1) = backsL s c k b t m ++ [oilF s c k b t m + c m * s.can - nowO s (c m) (oilF s c k b t m)] := by simp [backsL, List.range_succ]
theorem litsL_succ (s : St) (c k b : Nat → Int) (t : Int) (m : Nat) : litsL s c k b t (m + 1) = litsL s c k b t m ++ [litO s m (c m) (k m) (b m) (oilF s c k b t m)] := by simp [litsL, List.range_succ]

def PlayOk (s : St) (c k : List Int) (t : Int) (bs : List Int) (B : Nat) (m : Nat) (v1 v2 v3 : Value) (wr : World) : Prop :=
  wr.ownsRow B 3 1 v1 (leftsL s (atL c) (atL k) (atL bs) t m).length ((leftsL s (atL c) (atL k) (atL bs) t m).map (Value.int .i64)) ∧
  wr.ownsRow B 3 1 v2 (backsL s (atL c) (atL k) (atL bs) t m).length ((backsL s (atL c) (atL k) (atL bs) t m).map (Value.int .i64)) ∧
  wr.ownsRow B 4 1 v3 (litsL s (atL c) (atL k) (atL bs) t m).length ((litsL s (atL c) (atL k) (atL bs) t m).map Value.bool)
def PlayPost (s : St) (c k : List Int) (t : Int) (bs : List Int) (w : World) (e : Ending) (w' : World) : Prop :=
  Below w.heap.size w w' ∧ ((planL s c k ≠ 0 ∧ e = .returned (.tuple #[.slice none 0 0, .slice none 0 0, .slice none 0 0, .int .i64 (planL s c k)])) ∨ (planL s c k = 0 ∧ truthB s t bs = false ∧ e = .returned (.tuple #[.slice none 0 0, .slice none 0 0, .slice none 0 0, .int .i64 2])) ∨
    (planL s c k = 0 ∧ truthB s t bs = true ∧ ∃ v1 v2 v3, e = .returned (.tuple #[v1, v2, v3, .int .i64 0]) ∧ PlayOk s c k t bs w.heap.size s.ns.length v1 v2 v3 w'))

def PlRel (s : St) (c k : List Int) (t : Int) (bs : List Int) (w : World) (Bs Bp Bt : Nat) (o o2 o3 : Obj) (v1 v2 v3 oil i : Value) (wr : World) : Prop :=
  ∃ j : Nat, j ≤ s.ns.length ∧ i = .int .i64 j ∧ oil = .int .i64 (oilF s (atL c) (atL k) (atL bs) t j) ∧ PlayOk s c k t bs (Bt + 1) j v1 v2 v3 wr ∧ Apart v1 v2 ∧ Apart v1 v3 ∧ Apart v2 v3 ∧ wr.heap[Bs]? = some o ∧ wr.heap[Bp]? = some o2 ∧ wr.heap[Bt]? = some o3 ∧ Below w.heap.size w wr

set_option maxRecDepth 100000 in
set_option maxHeartbeats 8000000 in
theorem play_any (s : St) (A : Option Addr) (cp : Nat) (Ac Ak : Option Addr) (cc ck : Nat) (c k : List Int) (t : Int) (Ab : Option Addr) (cb : Nat) (bs : List Int) (w : World) (hn : s.ns.length ≤ 1000000) (hcl : c.length ≤ 1000000) (hkl : k.length ≤ 1000000) (hbl : bs.length ≤ 1000000) (hA : NtsAt w A s.ns) (hc : IntsAt w (.slice Ac c.length cc) c) (hk : IntsAt w (.slice Ak k.length ck) k) (hv : IntsAt w (.slice Ab bs.length cb) bs) :
    Calls Try.prog 20 #[.agg #[.int .i64 s.cap, .int .i64 s.can, .int .i64 s.sl, .int .i64 s.sh, .slice A s.ns.length cp], .agg #[.slice Ac c.length cc, .slice Ak k.length ck], .agg #[.int .i64 t, .slice Ab bs.length cb]] w (PlayPost s c k t bs w) := by
  have HA := Lib.hid hA
  have HC := Lib.hid hc
  have HK := Lib.hid hk
  have HV := Lib.hid hv
  have hcs := Lib.hid (fun W h1 h2 h3 => check_any s A cp Ac Ak cc ck c k W hn hcl hkl h1 h2 h3)
  clear hA hc hk hv
  by_cases h0 : planL s c k = 0
  rotate_left
  · have HP := Lib.hid h0
    obtain ⟨Q, hQ⟩ : ∃ Q, planL s c k = Q := ⟨_, rfl⟩
    rw [hQ] at hcs h0
    have HQ := Lib.hid hQ
    have hne : (Q != 0) = true := by simpa using h0
    clear hQ h0
    have hB0 : Below w.heap.size w (((w.alloc (.cells #[.int .i64 s.cap, .int .i64 s.can, .int .i64 s.sl, .int .i64 s.sh, .slice A s.ns.length cp] 39)).alloc (.cells #[.slice Ac c.length cc, .slice Ak k.length ck] 44)).alloc (.cells #[.int .i64 t, .slice Ab bs.length cb] 46)) := (((Below.refl _ _).alloc (Nat.le_refl _) _).alloc (by simp) _).alloc (by simp; omega) _
    have hn0 : (((w.alloc (.cells #[.int .i64 s.cap, .int .i64 s.can, .int .i64 s.sl, .int .i64 s.sh, .slice A s.ns.length cp] 39)).alloc (.cells #[.slice Ac c.length cc, .slice Ak k.length ck] 44)).alloc (.cells #[.int .i64 t, .slice Ab bs.length cb] 46)).heap[w.heap.size]? = some (.cells #[.int .i64 s.cap, .int .i64 s.can, .int .i64 s.sl, .int .i64 s.sh, .slice A s.ns.length cp] 39 (0, 0)) := (Below.heap_alloc _ _ _ (by simp <;> omega)).trans ((Below.heap_alloc _ _ _ (by simp <;> omega)).trans (heap_new_at _ _ _ rfl))
    have hn1 : (((w.alloc (.cells #[.int .i64 s.cap, .int .i64 s.can, .int .i64 s.sl, .int .i64 s.sh, .slice A s.ns.length cp] 39)).alloc (.cells #[.slice Ac c.length cc, .slice Ak k.length ck] 44)).alloc (.cells #[.int .i64 t, .slice Ab bs.length cb] 46)).heap[w.heap.size + 1]? = some (.cells #[.slice Ac c.length cc, .slice Ak k.length ck] 44 (0, 0)) := (Below.heap_alloc _ _ _ (by simp <;> omega)).trans (heap_new_at _ _ _ (by simp))
    have hn2 : (((w.alloc (.cells #[.int .i64 s.cap, .int .i64 s.can, .int .i64 s.sl, .int .i64 s.sh, .slice A s.ns.length cp] 39)).alloc (.cells #[.slice Ac c.length cc, .slice Ak k.length ck] 44)).alloc (.cells #[.int .i64 t, .slice Ab bs.length cb] 46)).heap[w.heap.size + 1 + 1]? = some (.cells #[.int .i64 t, .slice Ab bs.length cb] 46 (0, 0)) := heap_new_at _ _ _ (by simp)
    have HB1 := Lib.hid hB0
    have NBs1 := Lib.hid hn0
    have NBp1 := Lib.hid hn1
    have NBt1 := Lib.hid hn2
    clear hB0 hn0 hn1 hn2
    go_enter Try.func20, Try.ntmps20
    go_wp2_with fail
    generalize (((w.alloc (.cells #[.int .i64 s.cap, .int .i64 s.can, .int .i64 s.sl, .int .i64 s.sh, .slice A s.ns.length cp] 39)).alloc (.cells #[.slice Ac c.length cc, .slice Ak k.length ck] 44)).alloc (.cells #[.int .i64 t, .slice Ab bs.length cb] 46)) = w1 at HB1 NBs1 NBp1 NBt1 ⊢
    obtain ⟨Bt, hBt⟩ : ∃ Bt, w.heap.size + 1 + 1 = Bt := ⟨_, rfl⟩
    obtain ⟨Bp, hBp⟩ : ∃ Bp, w.heap.size + 1 = Bp := ⟨_, rfl⟩
    obtain ⟨Bs, hBs⟩ : ∃ Bs, w.heap.size = Bs := ⟨_, rfl⟩
    have oBt : w.heap.size ≤ Bt := by omega
    have oBsBt : Bs < Bt := by omega
    have oBpBt : Bp < Bt := by omega
    have oBp : w.heap.size ≤ Bp := by omega
    have oBsBp : Bs < Bp := by omega
    have oBs : w.heap.size ≤ Bs := by omega
    rw [hBt] at NBt1 ⊢
    rw [hBp] at NBp1 ⊢
    rw [hBs] at NBs1 ⊢
    clear hBs hBp hBt
    have cBs0_1 : w1.cell? ⟨Bs, 0, none⟩ = some (.int .i64 s.cap) := by simp [World.cell?, NBs1.out]
    have cBs1_1 : w1.cell? ⟨Bs, 1, none⟩ = some (.int .i64 s.can) := by simp [World.cell?, NBs1.out]
    have cBs2_1 : w1.cell? ⟨Bs, 2, none⟩ = some (.int .i64 s.sl) := by simp [World.cell?, NBs1.out]
    have cBs3_1 : w1.cell? ⟨Bs, 3, none⟩ = some (.int .i64 s.sh) := by simp [World.cell?, NBs1.out]
    have cBs4_1 : w1.cell? ⟨Bs, 4, none⟩ = some (.slice A s.ns.length cp) := by simp [World.cell?, NBs1.out]
    have cBp0_1 : w1.cell? ⟨Bp, 0, none⟩ = some (.slice Ac c.length cc) := by simp [World.cell?, NBp1.out]
    have cBp1_1 : w1.cell? ⟨Bp, 1, none⟩ = some (.slice Ak k.length ck) := by simp [World.cell?, NBp1.out]
    have cBt0_1 : w1.cell? ⟨Bt, 0, none⟩ = some (.int .i64 t) := by simp [World.cell?, NBt1.out]
    have cBt1_1 : w1.cell? ⟨Bt, 1, none⟩ = some (.slice Ab bs.length cb) := by simp [World.cell?, NBt1.out]
    go_wp2_with fail
    refine (hcs.out _ (HA.out.keep HB1.out (Nat.le_refl _)) (HC.out.keep HB1.out (Nat.le_refl _)) (HK.out.keep HB1.out (Nat.le_refl _))).mono ?_
    rintro e w2 ⟨rfl, hb⟩
    have HB2 := Lib.hid ((HB1.out).trans (hb.mono (HB1.out).size))
    have NBs2 := Lib.hid ((hb.block Bs (Array.getElem?_eq_some_iff.1 NBs1.out).1).trans NBs1.out)
    have NBp2 := Lib.hid ((hb.block Bp (Array.getElem?_eq_some_iff.1 NBp1.out).1).trans NBp1.out)
    have NBt2 := Lib.hid ((hb.block Bt (Array.getElem?_eq_some_iff.1 NBt1.out).1).trans NBt1.out)
    clear HB1 NBs1 NBp1 NBt1 cBs0_1 cBs1_1 cBs2_1 cBs3_1 cBs4_1 cBp0_1 cBp1_1 cBt0_1 cBt1_1  hb hcs
    have cBs0_2 : w2.cell? ⟨Bs, 0, none⟩ = some (.int .i64 s.cap) := by simp [World.cell?, NBs2.out]
    have cBs1_2 : w2.cell? ⟨Bs, 1, none⟩ = some (.int .i64 s.can) := by simp [World.cell?, NBs2.out]
    have cBs2_2 : w2.cell? ⟨Bs, 2, none⟩ = some (.int .i64 s.sl) := by simp [World.cell?, NBs2.out]
    have cBs3_2 : w2.cell? ⟨Bs, 3, none⟩ = some (.int .i64 s.sh) := by simp [World.cell?, NBs2.out]
    have cBs4_2 : w2.cell? ⟨Bs, 4, none⟩ = some (.slice A s.ns.length cp) := by simp [World.cell?, NBs2.out]
    have cBp0_2 : w2.cell? ⟨Bp, 0, none⟩ = some (.slice Ac c.length cc) := by simp [World.cell?, NBp2.out]
    have cBp1_2 : w2.cell? ⟨Bp, 1, none⟩ = some (.slice Ak k.length ck) := by simp [World.cell?, NBp2.out]
    have cBt0_2 : w2.cell? ⟨Bt, 0, none⟩ = some (.int .i64 t) := by simp [World.cell?, NBt2.out]
    have cBt1_2 : w2.cell? ⟨Bt, 1, none⟩ = some (.slice Ab bs.length cb) := by simp [World.cell?, NBt2.out]
    have hfin : PlayPost s c k t bs w (.returned (.tuple #[.slice none 0 0, .slice none 0 0, .slice none 0 0, .int .i64 Q])) w2 := ⟨HB2.out, .inl ⟨HP.out, by rw [HQ.out]⟩⟩
    have HF := Lib.hid hfin
    clear hfin
    go_wp2_with fail
    exact bodyPost_ret (v := .tuple #[.slice none 0 0, .slice none 0 0, .slice none 0 0, .int .i64 Q]) (by simp [results, Try.results20, go_sem]) rfl HF.out
  · have HP := Lib.hid h0
    have htr := Lib.hid (fun W h1 h2 => truth_any s A cp t Ab cb bs W hn hbl h1 h2)
    rw [h0] at hcs
    obtain ⟨h, hcl', hkl', hpl⟩ := planL_zero.1 h0
    have HO := Lib.hid h
    have HPL := Lib.hid hpl
    have HCL := Lib.hid hcl'
    have HKL := Lib.hid hkl'
    have hlen := h.len
    clear h0 h hcl' hkl' hpl
    cases htb : truthB s t bs with
    | false =>
      rw [htb] at htr
      have HT := Lib.hid htb
      clear htb
      have hB0 : Below w.heap.size w (((w.alloc (.cells #[.int .i64 s.cap, .int .i64 s.can, .int .i64 s.sl, .int .i64 s.sh, .slice A s.ns.length cp] 39)).alloc (.cells #[.slice Ac c.length cc, .slice Ak k.length ck] 44)).alloc (.cells #[.int .i64 t, .slice Ab bs.length cb] 46)) := (((Below.refl _ _).alloc (Nat.le_refl _) _).alloc (by simp) _).alloc (by simp; omega) _
      have hn0 : (((w.alloc (.cells #[.int .i64 s.cap, .int .i64 s.can, .int .i64 s.sl, .int .i64 s.sh, .slice A s.ns.length cp] 39)).alloc (.cells #[.slice Ac c.length cc, .slice Ak k.length ck] 44)).alloc (.cells #[.int .i64 t, .slice Ab bs.length cb] 46)).heap[w.heap.size]? = some (.cells #[.int .i64 s.cap, .int .i64 s.can, .int .i64 s.sl, .int .i64 s.sh, .slice A s.ns.length cp] 39 (0, 0)) := (Below.heap_alloc _ _ _ (by simp <;> omega)).trans ((Below.heap_alloc _ _ _ (by simp <;> omega)).trans (heap_new_at _ _ _ rfl))
      have hn1 : (((w.alloc (.cells #[.int .i64 s.cap, .int .i64 s.can, .int .i64 s.sl, .int .i64 s.sh, .slice A s.ns.length cp] 39)).alloc (.cells #[.slice Ac c.length cc, .slice Ak k.length ck] 44)).alloc (.cells #[.int .i64 t, .slice Ab bs.length cb] 46)).heap[w.heap.size + 1]? = some (.cells #[.slice Ac c.length cc, .slice Ak k.length ck] 44 (0, 0)) := (Below.heap_alloc _ _ _ (by simp <;> omega)).trans (heap_new_at _ _ _ (by simp))
      have hn2 : (((w.alloc (.cells #[.int .i64 s.cap, .int .i64 s.can, .int .i64 s.sl, .int .i64 s.sh, .slice A s.ns.length cp] 39)).alloc (.cells #[.slice Ac c.length cc, .slice Ak k.length ck] 44)).alloc (.cells #[.int .i64 t, .slice Ab bs.length cb] 46)).heap[w.heap.size + 1 + 1]? = some (.cells #[.int .i64 t, .slice Ab bs.length cb] 46 (0, 0)) := heap_new_at _ _ _ (by simp)
      have HB1 := Lib.hid hB0
      have NBs1 := Lib.hid hn0
      have NBp1 := Lib.hid hn1
      have NBt1 := Lib.hid hn2
      clear hB0 hn0 hn1 hn2
      go_enter Try.func20, Try.ntmps20
      go_wp2_with fail
      generalize (((w.alloc (.cells #[.int .i64 s.cap, .int .i64 s.can, .int .i64 s.sl, .int .i64 s.sh, .slice A s.ns.length cp] 39)).alloc (.cells #[.slice Ac c.length cc, .slice Ak k.length ck] 44)).alloc (.cells #[.int .i64 t, .slice Ab bs.length cb] 46)) = w1 at HB1 NBs1 NBp1 NBt1 ⊢
      obtain ⟨Bt, hBt⟩ : ∃ Bt, w.heap.size + 1 + 1 = Bt := ⟨_, rfl⟩
      obtain ⟨Bp, hBp⟩ : ∃ Bp, w.heap.size + 1 = Bp := ⟨_, rfl⟩
      obtain ⟨Bs, hBs⟩ : ∃ Bs, w.heap.size = Bs := ⟨_, rfl⟩
      have oBt : w.heap.size ≤ Bt := by omega
      have oBsBt : Bs < Bt := by omega
      have oBpBt : Bp < Bt := by omega
      have oBp : w.heap.size ≤ Bp := by omega
      have oBsBp : Bs < Bp := by omega
      have oBs : w.heap.size ≤ Bs := by omega
      rw [hBt] at NBt1 ⊢
      rw [hBp] at NBp1 ⊢
      rw [hBs] at NBs1 ⊢
      clear hBs hBp hBt
      have cBs0_1 : w1.cell? ⟨Bs, 0, none⟩ = some (.int .i64 s.cap) := by simp [World.cell?, NBs1.out]
      have cBs1_1 : w1.cell? ⟨Bs, 1, none⟩ = some (.int .i64 s.can) := by simp [World.cell?, NBs1.out]
      have cBs2_1 : w1.cell? ⟨Bs, 2, none⟩ = some (.int .i64 s.sl) := by simp [World.cell?, NBs1.out]
      have cBs3_1 : w1.cell? ⟨Bs, 3, none⟩ = some (.int .i64 s.sh) := by simp [World.cell?, NBs1.out]
      have cBs4_1 : w1.cell? ⟨Bs, 4, none⟩ = some (.slice A s.ns.length cp) := by simp [World.cell?, NBs1.out]
      have cBp0_1 : w1.cell? ⟨Bp, 0, none⟩ = some (.slice Ac c.length cc) := by simp [World.cell?, NBp1.out]
      have cBp1_1 : w1.cell? ⟨Bp, 1, none⟩ = some (.slice Ak k.length ck) := by simp [World.cell?, NBp1.out]
      have cBt0_1 : w1.cell? ⟨Bt, 0, none⟩ = some (.int .i64 t) := by simp [World.cell?, NBt1.out]
      have cBt1_1 : w1.cell? ⟨Bt, 1, none⟩ = some (.slice Ab bs.length cb) := by simp [World.cell?, NBt1.out]
      go_wp2_with fail
      refine (hcs.out _ (HA.out.keep HB1.out (Nat.le_refl _)) (HC.out.keep HB1.out (Nat.le_refl _)) (HK.out.keep HB1.out (Nat.le_refl _))).mono ?_
      rintro e w2 ⟨rfl, hb⟩
      have HB2 := Lib.hid ((HB1.out).trans (hb.mono (HB1.out).size))
      have NBs2 := Lib.hid ((hb.block Bs (Array.getElem?_eq_some_iff.1 NBs1.out).1).trans NBs1.out)
      have NBp2 := Lib.hid ((hb.block Bp (Array.getElem?_eq_some_iff.1 NBp1.out).1).trans NBp1.out)
      have NBt2 := Lib.hid ((hb.block Bt (Array.getElem?_eq_some_iff.1 NBt1.out).1).trans NBt1.out)
      clear HB1 NBs1 NBp1 NBt1 cBs0_1 cBs1_1 cBs2_1 cBs3_1 cBs4_1 cBp0_1 cBp1_1 cBt0_1 cBt1_1  hb hcs
      have cBs0_2 : w2.cell? ⟨Bs, 0, none⟩ = some (.int .i64 s.cap) := by simp [World.cell?, NBs2.out]
      have cBs1_2 : w2.cell? ⟨Bs, 1, none⟩ = some (.int .i64 s.can) := by simp [World.cell?, NBs2.out]
      have cBs2_2 : w2.cell? ⟨Bs, 2, none⟩ = some (.int .i64 s.sl) := by simp [World.cell?, NBs2.out]
      have cBs3_2 : w2.cell? ⟨Bs, 3, none⟩ = some (.int .i64 s.sh) := by simp [World.cell?, NBs2.out]
      have cBs4_2 : w2.cell? ⟨Bs, 4, none⟩ = some (.slice A s.ns.length cp) := by simp [World.cell?, NBs2.out]
      have cBp0_2 : w2.cell? ⟨Bp, 0, none⟩ = some (.slice Ac c.length cc) := by simp [World.cell?, NBp2.out]
      have cBp1_2 : w2.cell? ⟨Bp, 1, none⟩ = some (.slice Ak k.length ck) := by simp [World.cell?, NBp2.out]
      have cBt0_2 : w2.cell? ⟨Bt, 0, none⟩ = some (.int .i64 t) := by simp [World.cell?, NBt2.out]
      have cBt1_2 : w2.cell? ⟨Bt, 1, none⟩ = some (.slice Ab bs.length cb) := by simp [World.cell?, NBt2.out]
      go_wp2_with fail
      refine (htr.out _ (HA.out.keep HB2.out (Nat.le_refl _)) (HV.out.keep HB2.out (Nat.le_refl _))).mono ?_
      rintro e w3 ⟨rfl, hb⟩
      have HB3 := Lib.hid ((HB2.out).trans (hb.mono (HB2.out).size))
      have NBs3 := Lib.hid ((hb.block Bs (Array.getElem?_eq_some_iff.1 NBs2.out).1).trans NBs2.out)
      have NBp3 := Lib.hid ((hb.block Bp (Array.getElem?_eq_some_iff.1 NBp2.out).1).trans NBp2.out)
      have NBt3 := Lib.hid ((hb.block Bt (Array.getElem?_eq_some_iff.1 NBt2.out).1).trans NBt2.out)
      clear HB2 NBs2 NBp2 NBt2 cBs0_2 cBs1_2 cBs2_2 cBs3_2 cBs4_2 cBp0_2 cBp1_2 cBt0_2 cBt1_2  hb htr
      have cBs0_3 : w3.cell? ⟨Bs, 0, none⟩ = some (.int .i64 s.cap) := by simp [World.cell?, NBs3.out]
      have cBs1_3 : w3.cell? ⟨Bs, 1, none⟩ = some (.int .i64 s.can) := by simp [World.cell?, NBs3.out]
      have cBs2_3 : w3.cell? ⟨Bs, 2, none⟩ = some (.int .i64 s.sl) := by simp [World.cell?, NBs3.out]
      have cBs3_3 : w3.cell? ⟨Bs, 3, none⟩ = some (.int .i64 s.sh) := by simp [World.cell?, NBs3.out]
      have cBs4_3 : w3.cell? ⟨Bs, 4, none⟩ = some (.slice A s.ns.length cp) := by simp [World.cell?, NBs3.out]
      have cBp0_3 : w3.cell? ⟨Bp, 0, none⟩ = some (.slice Ac c.length cc) := by simp [World.cell?, NBp3.out]
      have cBp1_3 : w3.cell? ⟨Bp, 1, none⟩ = some (.slice Ak k.length ck) := by simp [World.cell?, NBp3.out]
      have cBt0_3 : w3.cell? ⟨Bt, 0, none⟩ = some (.int .i64 t) := by simp [World.cell?, NBt3.out]
      have cBt1_3 : w3.cell? ⟨Bt, 1, none⟩ = some (.slice Ab bs.length cb) := by simp [World.cell?, NBt3.out]
      have hfin : PlayPost s c k t bs w (.returned (.tuple #[.slice none 0 0, .slice none 0 0, .slice none 0 0, .int .i64 2])) w3 := ⟨HB3.out, .inr (.inl ⟨HP.out, HT.out, rfl⟩)⟩
      have HF := Lib.hid hfin
      clear hfin
      go_wp2_with fail
      exact bodyPost_ret (v := .tuple #[.slice none 0 0, .slice none 0 0, .slice none 0 0, .int .i64 2]) (by simp [results, Try.results20, go_sem]) rfl HF.out
    | true =>
      rw [htb] at htr
      have HT := Lib.hid htb
      obtain ⟨hbl2, htt⟩ := truthB_true.1 htb
      have HBL := Lib.hid hbl2
      have HTT := Lib.hid htt
      clear htb hbl2 htt
      have hB0 : Below w.heap.size w (((w.alloc (.cells #[.int .i64 s.cap, .int .i64 s.can, .int .i64 s.sl, .int .i64 s.sh, .slice A s.ns.length cp] 39)).alloc (.cells #[.slice Ac c.length cc, .slice Ak k.length ck] 44)).alloc (.cells #[.int .i64 t, .slice Ab bs.length cb] 46)) := (((Below.refl _ _).alloc (Nat.le_refl _) _).alloc (by simp) _).alloc (by simp; omega) _
      have hn0 : (((w.alloc (.cells #[.int .i64 s.cap, .int .i64 s.can, .int .i64 s.sl, .int .i64 s.sh, .slice A s.ns.length cp] 39)).alloc (.cells #[.slice Ac c.length cc, .slice Ak k.length ck] 44)).alloc (.cells #[.int .i64 t, .slice Ab bs.length cb] 46)).heap[w.heap.size]? = some (.cells #[.int .i64 s.cap, .int .i64 s.can, .int .i64 s.sl, .int .i64 s.sh, .slice A s.ns.length cp] 39 (0, 0)) := (Below.heap_alloc _ _ _ (by simp <;> omega)).trans ((Below.heap_alloc _ _ _ (by simp <;> omega)).trans (heap_new_at _ _ _ rfl))
      have hn1 : (((w.alloc (.cells #[.int .i64 s.cap, .int .i64 s.can, .int .i64 s.sl, .int .i64 s.sh, .slice A s.ns.length cp] 39)).alloc (.cells #[.slice Ac c.length cc, .slice Ak k.length ck] 44)).alloc (.cells #[.int .i64 t, .slice Ab bs.length cb] 46)).heap[w.heap.size + 1]? = some (.cells #[.slice Ac c.length cc, .slice Ak k.length ck] 44 (0, 0)) := (Below.heap_alloc _ _ _ (by simp <;> omega)).trans (heap_new_at _ _ _ (by simp))
      have hn2 : (((w.alloc (.cells #[.int .i64 s.cap, .int .i64 s.can, .int .i64 s.sl, .int .i64 s.sh, .slice A s.ns.length cp] 39)).alloc (.cells #[.slice Ac c.length cc, .slice Ak k.length ck] 44)).alloc (.cells #[.int .i64 t, .slice Ab bs.length cb] 46)).heap[w.heap.size + 1 + 1]? = some (.cells #[.int .i64 t, .slice Ab bs.length cb] 46 (0, 0)) := heap_new_at _ _ _ (by simp)
      have HB1 := Lib.hid hB0
      have NBs1 := Lib.hid hn0
      have NBp1 := Lib.hid hn1
      have NBt1 := Lib.hid hn2
      clear hB0 hn0 hn1 hn2
      go_enter Try.func20, Try.ntmps20
      go_wp2_with fail
      generalize (((w.alloc (.cells #[.int .i64 s.cap, .int .i64 s.can, .int .i64 s.sl, .int .i64 s.sh, .slice A s.ns.length cp] 39)).alloc (.cells #[.slice Ac c.length cc, .slice Ak k.length ck] 44)).alloc (.cells #[.int .i64 t, .slice Ab bs.length cb] 46)) = w1 at HB1 NBs1 NBp1 NBt1 ⊢
      obtain ⟨Bt, hBt⟩ : ∃ Bt, w.heap.size + 1 + 1 = Bt := ⟨_, rfl⟩
      obtain ⟨Bp, hBp⟩ : ∃ Bp, w.heap.size + 1 = Bp := ⟨_, rfl⟩
      obtain ⟨Bs, hBs⟩ : ∃ Bs, w.heap.size = Bs := ⟨_, rfl⟩
      have oBt : w.heap.size ≤ Bt := by omega
      have oBsBt : Bs < Bt := by omega
      have oBpBt : Bp < Bt := by omega
      have oBp : w.heap.size ≤ Bp := by omega
      have oBsBp : Bs < Bp := by omega
      have oBs : w.heap.size ≤ Bs := by omega
      rw [hBt] at NBt1 ⊢
      rw [hBp] at NBp1 ⊢
      rw [hBs] at NBs1 ⊢
      clear hBs hBp hBt
      have cBs0_1 : w1.cell? ⟨Bs, 0, none⟩ = some (.int .i64 s.cap) := by simp [World.cell?, NBs1.out]
      have cBs1_1 : w1.cell? ⟨Bs, 1, none⟩ = some (.int .i64 s.can) := by simp [World.cell?, NBs1.out]
      have cBs2_1 : w1.cell? ⟨Bs, 2, none⟩ = some (.int .i64 s.sl) := by simp [World.cell?, NBs1.out]
      have cBs3_1 : w1.cell? ⟨Bs, 3, none⟩ = some (.int .i64 s.sh) := by simp [World.cell?, NBs1.out]
      have cBs4_1 : w1.cell? ⟨Bs, 4, none⟩ = some (.slice A s.ns.length cp) := by simp [World.cell?, NBs1.out]
      have cBp0_1 : w1.cell? ⟨Bp, 0, none⟩ = some (.slice Ac c.length cc) := by simp [World.cell?, NBp1.out]
      have cBp1_1 : w1.cell? ⟨Bp, 1, none⟩ = some (.slice Ak k.length ck) := by simp [World.cell?, NBp1.out]
      have cBt0_1 : w1.cell? ⟨Bt, 0, none⟩ = some (.int .i64 t) := by simp [World.cell?, NBt1.out]
      have cBt1_1 : w1.cell? ⟨Bt, 1, none⟩ = some (.slice Ab bs.length cb) := by simp [World.cell?, NBt1.out]
      go_wp2_with fail
      refine (hcs.out _ (HA.out.keep HB1.out (Nat.le_refl _)) (HC.out.keep HB1.out (Nat.le_refl _)) (HK.out.keep HB1.out (Nat.le_refl _))).mono ?_
      rintro e w2 ⟨rfl, hb⟩
      have HB2 := Lib.hid ((HB1.out).trans (hb.mono (HB1.out).size))
      have NBs2 := Lib.hid ((hb.block Bs (Array.getElem?_eq_some_iff.1 NBs1.out).1).trans NBs1.out)
      have NBp2 := Lib.hid ((hb.block Bp (Array.getElem?_eq_some_iff.1 NBp1.out).1).trans NBp1.out)
      have NBt2 := Lib.hid ((hb.block Bt (Array.getElem?_eq_some_iff.1 NBt1.out).1).trans NBt1.out)
      clear HB1 NBs1 NBp1 NBt1 cBs0_1 cBs1_1 cBs2_1 cBs3_1 cBs4_1 cBp0_1 cBp1_1 cBt0_1 cBt1_1  hb hcs
      have cBs0_2 : w2.cell? ⟨Bs, 0, none⟩ = some (.int .i64 s.cap) := by simp [World.cell?, NBs2.out]
      have cBs1_2 : w2.cell? ⟨Bs, 1, none⟩ = some (.int .i64 s.can) := by simp [World.cell?, NBs2.out]
      have cBs2_2 : w2.cell? ⟨Bs, 2, none⟩ = some (.int .i64 s.sl) := by simp [World.cell?, NBs2.out]
      have cBs3_2 : w2.cell? ⟨Bs, 3, none⟩ = some (.int .i64 s.sh) := by simp [World.cell?, NBs2.out]
      have cBs4_2 : w2.cell? ⟨Bs, 4, none⟩ = some (.slice A s.ns.length cp) := by simp [World.cell?, NBs2.out]
      have cBp0_2 : w2.cell? ⟨Bp, 0, none⟩ = some (.slice Ac c.length cc) := by simp [World.cell?, NBp2.out]
      have cBp1_2 : w2.cell? ⟨Bp, 1, none⟩ = some (.slice Ak k.length ck) := by simp [World.cell?, NBp2.out]
      have cBt0_2 : w2.cell? ⟨Bt, 0, none⟩ = some (.int .i64 t) := by simp [World.cell?, NBt2.out]
      have cBt1_2 : w2.cell? ⟨Bt, 1, none⟩ = some (.slice Ab bs.length cb) := by simp [World.cell?, NBt2.out]
      go_wp2_with fail
      refine (htr.out _ (HA.out.keep HB2.out (Nat.le_refl _)) (HV.out.keep HB2.out (Nat.le_refl _))).mono ?_
      rintro e w3 ⟨rfl, hb⟩
      have HB3 := Lib.hid ((HB2.out).trans (hb.mono (HB2.out).size))
      have NBs3 := Lib.hid ((hb.block Bs (Array.getElem?_eq_some_iff.1 NBs2.out).1).trans NBs2.out)
      have NBp3 := Lib.hid ((hb.block Bp (Array.getElem?_eq_some_iff.1 NBp2.out).1).trans NBp2.out)
      have NBt3 := Lib.hid ((hb.block Bt (Array.getElem?_eq_some_iff.1 NBt2.out).1).trans NBt2.out)
      clear HB2 NBs2 NBp2 NBt2 cBs0_2 cBs1_2 cBs2_2 cBs3_2 cBs4_2 cBp0_2 cBp1_2 cBt0_2 cBt1_2  hb htr
      have cBs0_3 : w3.cell? ⟨Bs, 0, none⟩ = some (.int .i64 s.cap) := by simp [World.cell?, NBs3.out]
      have cBs1_3 : w3.cell? ⟨Bs, 1, none⟩ = some (.int .i64 s.can) := by simp [World.cell?, NBs3.out]
      have cBs2_3 : w3.cell? ⟨Bs, 2, none⟩ = some (.int .i64 s.sl) := by simp [World.cell?, NBs3.out]
      have cBs3_3 : w3.cell? ⟨Bs, 3, none⟩ = some (.int .i64 s.sh) := by simp [World.cell?, NBs3.out]
      have cBs4_3 : w3.cell? ⟨Bs, 4, none⟩ = some (.slice A s.ns.length cp) := by simp [World.cell?, NBs3.out]
      have cBp0_3 : w3.cell? ⟨Bp, 0, none⟩ = some (.slice Ac c.length cc) := by simp [World.cell?, NBp3.out]
      have cBp1_3 : w3.cell? ⟨Bp, 1, none⟩ = some (.slice Ak k.length ck) := by simp [World.cell?, NBp3.out]
      have cBt0_3 : w3.cell? ⟨Bt, 0, none⟩ = some (.int .i64 t) := by simp [World.cell?, NBt3.out]
      have cBt1_3 : w3.cell? ⟨Bt, 1, none⟩ = some (.slice Ab bs.length cb) := by simp [World.cell?, NBt3.out]
      go_wp2_with fail
      go_loopw [6, 7, 8, 11, 33] (PlRel s c k t bs w Bs Bp Bt (.cells #[.int .i64 s.cap, .int .i64 s.can, .int .i64 s.sl, .int .i64 s.sh, .slice A s.ns.length cp] 39 (0, 0)) (.cells #[.slice Ac c.length cc, .slice Ak k.length ck] 44 (0, 0)) (.cells #[.int .i64 t, .slice Ab bs.length cb] 46 (0, 0))) (fun _ _ _ _ i _ => s.ns.length - (intOf i).toNat)
      case atStart => exact ⟨0, by omega, rfl, rfl, ⟨World.ownsRow_nil _ _ _ _, World.ownsRow_nil _ _ _ _, World.ownsRow_nil _ _ _ _⟩, Apart.nil _, Apart.nil _, Apart.nil _, NBs3.out, NBp3.out, NBt3.out, HB3.out⟩
      case round =>
        clear cBs0_3 cBs1_3 cBs2_3 cBs3_3 cBs4_3 cBp0_3 cBp1_3 cBt0_3 cBt1_3 HB3 NBs3 NBp3 NBt3
        obtain ⟨j, hj, rfl, rfl, ⟨ho1, ho2, ho3⟩, ha1, ha2, ha3, hn0, hn1, hn2, hbe⟩ := hrel
        have HBE := Lib.hid hbe
        have HN0 := Lib.hid hn0
        have HN1 := Lib.hid hn1
        have HN2 := Lib.hid hn2
        have HO1 := Lib.hid ho1
        have HO2 := Lib.hid ho2
        have HO3 := Lib.hid ho3
        have HA1 := Lib.hid ha1
        have HA2 := Lib.hid ha2
        have HA3 := Lib.hid ha3
        have lBs := (Array.getElem?_eq_some_iff.1 hn0).1
        have lBp := (Array.getElem?_eq_some_iff.1 hn1).1
        have lBt := (Array.getElem?_eq_some_iff.1 hn2).1
        clear hbe hn0 hn1 hn2 ho1 ho2 ho3 ha1 ha2 ha3
        by_cases hlt : j < s.ns.length
        · have hlt' : decide ((j : Int) < (s.ns.length : Int)) = true := by simpa using hlt
          obtain ⟨b, o, rfl, d0⟩ := (HC.out.keep HBE.out (Nat.le_refl _)).at (k := j) (by rw [HCL.out]; exact hlt)
          obtain ⟨b', o', rfl, d1⟩ := (HK.out.keep HBE.out (Nat.le_refl _)).at (k := j) (by rw [HKL.out]; exact hlt)
          obtain ⟨b2, o2, rfl, d2⟩ := (HV.out.keep HBE.out (Nat.le_refl _)).at (k := j) (by rw [HBL.out]; exact hlt)
          obtain ⟨b3, o3, rfl, a0, a1, a2, a3, a4⟩ := (HA.out.keep HBE.out (Nat.le_refl _)).at hlt
          rw [← ntAt_at hlt] at a0 a1 a2 a3 a4
          have hpn := HPL.out.nn HO.out hlt
          have htn := HTT.out.nn HO.out hlt
          have hob := oilF_bd HO.out HPL.out HTT.out (i := j) (by omega)
          have hcap := HO.out.c1
          have hnow := nowO_bd HO.out (c := atL c j) (o := oilF s (atL c) (atL k) (atL bs) t j) (by omega) (by omega)
          have hnt := HO.out.nt j hlt
          have hs1 := leftsL_succ s (atL c) (atL k) (atL bs) t j
          have hs2 := backsL_succ s (atL c) (atL k) (atL bs) t j
          have hs3 := litsL_succ s (atL c) (atL k) (atL bs) t j
          have hs4 : oilF s (atL c) (atL k) (atL bs) t (j + 1) = leftO s j (atL c j) (atL k j) (atL bs j) (oilF s (atL c) (atL k) (atL bs) t j) := rfl
          have hl1 := leftsL_len s (atL c) (atL k) (atL bs) t j
          have hl2 := backsL_len s (atL c) (atL k) (atL bs) t j
          have hl3 := litsL_len s (atL c) (atL k) (atL bs) t j
          have q1 : (leftsL s (atL c) (atL k) (atL bs) t j).length ≤ 1000000 := by omega
          have q2 : (backsL s (atL c) (atL k) (atL bs) t j).length ≤ 1000000 := by omega
          have q3 : (litsL s (atL c) (atL k) (atL bs) t j).length ≤ 1000000 := by omega
          clear hl1 hl2 hl3
          obtain ⟨X, hX⟩ : ∃ X, atL c j = X := ⟨_, rfl⟩
          obtain ⟨Y, hY⟩ : ∃ Y, atL k j = Y := ⟨_, rfl⟩
          obtain ⟨Z, hZ⟩ : ∃ Z, atL bs j = Z := ⟨_, rfl⟩
          obtain ⟨O, hO⟩ : ∃ O, oilF s (atL c) (atL k) (atL bs) t j = O := ⟨_, rfl⟩
          rw [hX] at d0 hpn hnow
          rw [hY] at d1 hpn
          rw [hZ] at d2 htn
          rw [hO] at hob hnow
          rw [hX, hY, hZ, hO] at hs1 hs3 hs4
          rw [hX, hO] at hs2
          rw [hO]
          have hfil := fun W => filled_any (some ⟨b3, o3, none⟩) s.ns.length cp s O X W (And.intro HO.out.c0 HO.out.c1) (And.intro HO.out.k0 HO.out.k1) (by omega) (by omega)
          have hburn := Lib.hid (fun W => burned_any s HO.out hlt X Y Z O _ W (by omega) (by omega) rfl (by omega))
          obtain ⟨N, hN⟩ : ∃ N, nowO s X O = N := ⟨_, rfl⟩
          obtain ⟨V, hV⟩ : ∃ V, O + X * s.can - N = V := ⟨_, rfl⟩
          simp only [hN, hV] at hfil
          rw [hN, hV] at hs2
          rw [hN] at hburn hnow
          obtain ⟨L, hL⟩ : ∃ L, leftO s j X Y Z O = L := ⟨_, rfl⟩
          obtain ⟨T, hT⟩ : ∃ T, litO s j X Y Z O = T := ⟨_, rfl⟩
          rw [hL, hT] at hburn
          rw [hL] at hs1 hs4
          rw [hT] at hs3
          obtain ⟨⟨nh, na, nb, nlo, nhi⟩, hNT⟩ : ∃ N, ntAt s j = N := ⟨_, rfl⟩
          rw [hNT] at a0 a1 a2 a3 a4 hburn
          dsimp only at a0 a1 a2 a3 a4 hburn
          have HS1 := Lib.hid hs1
          have HS2 := Lib.hid hs2
          have HS3 := Lib.hid hs3
          have HS4 := Lib.hid hs4
          have HFIL := Lib.hid hfil
          have i1 : (0 : Int) ≤ (j : Int) := by omega
          have i2 : (j : Int) < (c.length : Int) := by rw [HCL.out]; omega
          have i3 : (j : Int) < (k.length : Int) := by rw [HKL.out]; omega
          have i4 : (j : Int) < (bs.length : Int) := by rw [HBL.out]; omega
          have i5 : (j : Int) < (s.ns.length : Int) := by omega
          have lb0 := World.block_lt_of_cell? wr _ d0
          have lb1 := World.block_lt_of_cell? wr _ d1
          have lb2 := World.block_lt_of_cell? wr _ d2
          clear hs1 hs2 hs3 hs4 hfil hX hY hZ hO hN hV hL hT hNT hnt hpn htn hob
          go_wp2_with fail
          have hwa : Below wr.heap.size wr (wr.alloc (.cells #[.int .i64 nh, .int .i64 na, .int .i64 nb, .int .i64 nlo, .int .i64 nhi] 105)) := (Below.refl _ _).alloc (Nat.le_refl _) _
          have hna := Go.heap_alloc_new wr (.cells #[.int .i64 nh, .int .i64 na, .int .i64 nb, .int .i64 nlo, .int .i64 nhi] 105)
          obtain ⟨Bn, hBn⟩ : ∃ Bn, wr.heap.size = Bn := ⟨_, rfl⟩
          generalize wr.alloc (.cells #[.int .i64 nh, .int .i64 na, .int .i64 nb, .int .i64 nlo, .int .i64 nhi] 105) = w2 at hwa hna ⊢
          have s0 : w2.cell? ⟨Bs, 0, none⟩ = some (.int .i64 s.cap) := cell_later hwa (by simp [World.cell?, HN0.out])
          have s1 : w2.cell? ⟨Bs, 1, none⟩ = some (.int .i64 s.can) := cell_later hwa (by simp [World.cell?, HN0.out])
          have s2 : w2.cell? ⟨Bs, 2, none⟩ = some (.int .i64 s.sl) := cell_later hwa (by simp [World.cell?, HN0.out])
          have s3 : w2.cell? ⟨Bs, 3, none⟩ = some (.int .i64 s.sh) := cell_later hwa (by simp [World.cell?, HN0.out])
          have s4 : w2.cell? ⟨Bs, 4, none⟩ = some (.slice (some ⟨b3, o3, none⟩) s.ns.length cp) := cell_later hwa (by simp [World.cell?, HN0.out])
          have p0 : w2.cell? ⟨Bp, 0, none⟩ = some (.slice (some ⟨b, o, none⟩) c.length cc) := cell_later hwa (by simp [World.cell?, HN1.out])
          have p1 : w2.cell? ⟨Bp, 1, none⟩ = some (.slice (some ⟨b', o', none⟩) k.length ck) := cell_later hwa (by simp [World.cell?, HN1.out])
          have t1 : w2.cell? ⟨Bt, 1, none⟩ = some (.slice (some ⟨b2, o2, none⟩) bs.length cb) := cell_later hwa (by simp [World.cell?, HN2.out])
          have e0 := cell_later hwa d0
          have e1 := cell_later hwa d1
          have e2 := cell_later hwa d2
          rw [hBn] at hna ⊢
          have n0 : w2.cell? ⟨Bn, 0, none⟩ = some (.int .i64 nh) := by simp [World.cell?, hna]
          have n1 : w2.cell? ⟨Bn, 1, none⟩ = some (.int .i64 na) := by simp [World.cell?, hna]
          have n2 : w2.cell? ⟨Bn, 2, none⟩ = some (.int .i64 nb) := by simp [World.cell?, hna]
          have n3 : w2.cell? ⟨Bn, 3, none⟩ = some (.int .i64 nlo) := by simp [World.cell?, hna]
          have n4 : w2.cell? ⟨Bn, 4, none⟩ = some (.int .i64 nhi) := by simp [World.cell?, hna]
          clear a0 a1 a2 a3 a4 d0 d1 d2 hna hBn
          go_region_held3 (fun Z => Z.cell? ⟨Bs, 0, none⟩ = some (.int .i64 s.cap) ∧ Z.cell? ⟨Bs, 1, none⟩ = some (.int .i64 s.can) ∧ Z.cell? ⟨Bs, 2, none⟩ = some (.int .i64 s.sl) ∧ Z.cell? ⟨Bs, 3, none⟩ = some (.int .i64 s.sh) ∧ Z.cell? ⟨Bs, 4, none⟩ = some (.slice (some ⟨b3, o3, none⟩) s.ns.length cp) ∧ Z.cell? ⟨Bp, 0, none⟩ = some (.slice (some ⟨b, o, none⟩) c.length cc) ∧ Z.cell? ⟨b, o + j, none⟩ = some (.int .i64 X))
            (first | go_keep | exact ⟨cell_later hb3 s0, cell_later hb3 s1, cell_later hb3 s2, cell_later hb3 s3, cell_later hb3 s4, cell_later hb3 p0, cell_later hb3 e0⟩)
            ((go_at_call 65; refine (HFIL.out _).mono ?_; rintro e w3 ⟨rfl, hb3⟩))
          have hb3' : Below w2.heap.size w2 w3 := (Below.refl _ w2).drew.trans hb3
          replace p1 := cell_later hb3' p1
          replace t1 := cell_later hb3' t1
          replace e1 := cell_later hb3' e1
          replace e2 := cell_later hb3' e2
          replace n0 := cell_later hb3' n0
          replace n1 := cell_later hb3' n1
          replace n2 := cell_later hb3' n2
          replace n3 := cell_later hb3' n3
          replace n4 := cell_later hb3' n4
          have hw3 := hwa.trans (hb3'.mono hwa.size)
          have HW3 := Lib.hid hw3
          clear hb3 hb3' hwa s0 s1 s2 s3 s4 p0 e0 HFIL hw3
          go_wp2_with fail
          go_region_held3 (fun Q => Q.cell? ⟨Bp, 1, none⟩ = some (.slice (some ⟨b', o', none⟩) k.length ck) ∧ Q.cell? ⟨Bt, 1, none⟩ = some (.slice (some ⟨b2, o2, none⟩) bs.length cb) ∧ Q.cell? ⟨b', o' + j, none⟩ = some (.int .i64 Y) ∧ Q.cell? ⟨b2, o2 + j, none⟩ = some (.int .i64 Z) ∧ Q.cell? ⟨Bn, 0, none⟩ = some (.int .i64 nh) ∧ Q.cell? ⟨Bn, 1, none⟩ = some (.int .i64 na) ∧ Q.cell? ⟨Bn, 2, none⟩ = some (.int .i64 nb) ∧ Q.cell? ⟨Bn, 3, none⟩ = some (.int .i64 nlo) ∧ Q.cell? ⟨Bn, 4, none⟩ = some (.int .i64 nhi))
            (first | go_keep | exact ⟨cell_later hb4 p1, cell_later hb4 t1, cell_later hb4 e1, cell_later hb4 e2, cell_later hb4 n0, cell_later hb4 n1, cell_later hb4 n2, cell_later hb4 n3, cell_later hb4 n4⟩)
            ((go_at_call 66; refine (hburn.out _).mono ?_; rintro e w4 ⟨rfl, hb4⟩))
          have hw4 := HW3.out.trans (((Below.refl _ w3).drew.trans hb4).mono HW3.out.size)
          have HO14 := Lib.hid (HO1.out.kept (Go_grown_of_below hw4) (own_none _))
          have HO24 := Lib.hid (HO2.out.kept (Go_grown_of_below hw4) (own_none _))
          have HO34 := Lib.hid (HO3.out.kept (Go_grown_of_below hw4) (own_none _))
          have HN04 := Lib.hid ((hw4.block Bs lBs).trans HN0.out)
          have HN14 := Lib.hid ((hw4.block Bp lBp).trans HN1.out)
          have HN24 := Lib.hid ((hw4.block Bt lBt).trans HN2.out)
          have HBE4 := Lib.hid (HBE.out.trans (hw4.mono HBE.out.size))
          have l4 := hw4.size
          clear hb4 p1 t1 e1 e2 n0 n1 n2 n3 n4 HO1 HO2 HO3 HN0 HN1 HN2 HBE HW3 hw4 hburn
          go_wp2_with (at_builtin; refine wpList_app_int rfl _ _ rfl (Bt + 1) u6 (leftsL s (atL c) (atL k) (atL bs) t j) L w4.heap.size rfl (HO14.out.alloc _) rfl (Go.heap_alloc_new w4 _) q1 (by simp; omega) _ rfl ?_)
          intro g1 cap1 w5 hown5 hg5 hat5 hlt5
          have b5 : Below (Bt + 1) (w4.alloc (.cells #[.int .i64 L] 3)) w5 := below_of_grown hg5 (HO14.out.alloc _) (Nat.le_refl _) (by simp; omega)
          have x5 : Below (Bt + 1) w4 w5 := ((Below.refl _ w4).alloc (by omega) _).trans b5
          have HO25 := Lib.hid ((HO24.out.alloc (.cells #[.int .i64 L] 3)).kept hg5 HA1.out.symm.row)
          have HO35 := Lib.hid ((HO34.out.alloc (.cells #[.int .i64 L] 3)).kept hg5 HA2.out.symm.row)
          have A1 := Lib.hid (HA1.out.symm.grown (n := (leftsL s (atL c) (atL k) (atL bs) t j).length + 1) (cap := cap1) hat5 (fun m hm => by have := HO24.out.lt m hm; simp; omega))
          have A2 := Lib.hid (HA2.out.symm.grown (n := (leftsL s (atL c) (atL k) (atL bs) t j).length + 1) (cap := cap1) hat5 (fun m hm => by have := HO34.out.lt m hm; simp; omega))
          have HO15 := Lib.hid hown5
          have X5 := Lib.hid x5
          have l5 := x5.size
          clear hown5 hg5 hat5 hlt5 b5 x5 HO14 HO24 HO34 HA1 HA2
          go_wp2_with (at_builtin; refine wpList_app_int rfl _ _ rfl (Bt + 1) u7 (backsL s (atL c) (atL k) (atL bs) t j) V w5.heap.size rfl (HO25.out.alloc _) rfl (Go.heap_alloc_new w5 _) q2 (by simp; omega) _ rfl ?_)
          intro g2 cap2 w6 hown6 hg6 hat6 hlt6
          have b6 : Below (Bt + 1) (w5.alloc (.cells #[.int .i64 V] 3)) w6 := below_of_grown hg6 (HO25.out.alloc _) (Nat.le_refl _) (by simp; omega)
          have x6 : Below (Bt + 1) w4 w6 := (X5.out.alloc (by omega) _).trans b6
          have HO16 := Lib.hid ((HO15.out.alloc (.cells #[.int .i64 V] 3)).kept hg6 A1.out.symm.row)
          have HO36 := Lib.hid ((HO35.out.alloc (.cells #[.int .i64 V] 3)).kept hg6 HA3.out.symm.row)
          have A1' := Lib.hid (A1.out.symm.grown (n := (backsL s (atL c) (atL k) (atL bs) t j).length + 1) (cap := cap2) hat6 (fun m hm => by have := HO15.out.lt m hm; simp; omega))
          have A3 := Lib.hid (HA3.out.symm.grown (n := (backsL s (atL c) (atL k) (atL bs) t j).length + 1) (cap := cap2) hat6 (fun m hm => by have := HO35.out.lt m hm; simp; omega))
          have HO26 := Lib.hid hown6
          have X6 := Lib.hid x6
          have l6 := x6.size
          clear hown6 hg6 hat6 hlt6 b6 x6 HO15 HO25 HO35 HA3 A1 X5
          go_wp2_with (at_builtin; refine wpList_app_bool rfl _ _ rfl (Bt + 1) u8 (litsL s (atL c) (atL k) (atL bs) t j) T w6.heap.size rfl (HO36.out.alloc _) rfl (Go.heap_alloc_new w6 _) q3 (by simp; omega) _ rfl ?_)
          intro g3 cap3 w7 hown7 hg7 hat7 hlt7
          have b7 : Below (Bt + 1) (w6.alloc (.cells #[.bool T] 4)) w7 := below_of_grown hg7 (HO36.out.alloc _) (Nat.le_refl _) (by simp; omega)
          have x7 : Below (Bt + 1) w4 w7 := (X6.out.alloc (by omega) _).trans b7
          have HO17 := Lib.hid ((HO16.out.alloc (.cells #[.bool T] 4)).kept hg7 A2.out.symm.row)
          have HO27 := Lib.hid ((HO26.out.alloc (.cells #[.bool T] 4)).kept hg7 A3.out.symm.row)
          have A2' := Lib.hid (A2.out.symm.grown (n := (litsL s (atL c) (atL k) (atL bs) t j).length + 1) (cap := cap3) hat7 (fun m hm => by have := HO16.out.lt m hm; simp; omega))
          have A3' := Lib.hid (A3.out.symm.grown (n := (litsL s (atL c) (atL k) (atL bs) t j).length + 1) (cap := cap3) hat7 (fun m hm => by have := HO26.out.lt m hm; simp; omega))
          have HO37 := Lib.hid hown7
          have HN07 := Lib.hid ((x7.block Bs (by omega)).trans HN04.out)
          have HN17 := Lib.hid ((x7.block Bp (by omega)).trans HN14.out)
          have HN27 := Lib.hid ((x7.block Bt (by omega)).trans HN24.out)
          have HBE7 := Lib.hid (HBE4.out.trans (x7.mono (by omega)))
          clear hown7 hg7 hat7 hlt7 b7 x7 HO16 HO26 HO36 A2 A3 X6 HN04 HN14 HN24 HBE4
          go_wp2_with fail
          go_roundw
          case rel => exact ⟨j + 1, by omega, by go_num, by rw [HS4.out], ⟨by rw [HS1.out, List.map_append, List.length_append]; simpa using HO17.out, by rw [HS2.out, List.map_append, List.length_append]; simpa using HO27.out, by rw [HS3.out, List.map_append, List.length_append]; simpa using HO37.out⟩, A1'.out, A2'.out, A3'.out, HN07.out, HN17.out, HN27.out, HBE7.out⟩
          case measure => simp [intOf]; omega
        · have hlt' : decide ((j : Int) < (s.ns.length : Int)) = false := by simpa using hlt
          obtain rfl : j = s.ns.length := by omega
          have hfin : PlayPost s c k t bs w (.returned (.tuple #[u6, u7, u8, .int .i64 0])) wr := ⟨HBE.out, .inr (.inr ⟨HP.out, HT.out, _, _, _, rfl, HO1.out.lower (by omega), HO2.out.lower (by omega), HO3.out.lower (by omega)⟩)⟩
          have HF := Lib.hid hfin
          clear hfin
          go_wp2_with fail
          exact bodyPost_ret (v := .tuple #[u6, u7, u8, .int .i64 0]) (by simp [results, Try.results20, go_sem]) rfl HF.out
end Go.Proofs.Ytefhdcecbmgljaa

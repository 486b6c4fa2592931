/-
  levels: the oil that there can be after each night.
-/
import Derived.Test.YtefhdcecbmgljaaLevB
set_option linter.all false
namespace Go.Proofs.Ytefhdcecbmgljaa
open Go.RowKit Go.WalkArith

def lv1 (s : St) (k : Nat) (x : Nat) : Bool := decide (s.sl ≤ (x : Int)) && decide (x < k)
theorem lv1_set {s : St} {k : Nat} (h : s.sl ≤ (k : Int)) (x : Nat) : lv1 s (k + 1) x = setF (lv1 s k) k true x := by
  unfold setF lv1
  split
  · rename_i e; subst e; simp [h]
  · rename_i e
    congr 1
    rw [decide_eq_decide]; omega
theorem lv1_all {s : St} {k : Nat} (h : (k : Int) = s.sh + 1) (c k' : Nat → Int) (dips : List Dp) : IsRow (Fw s c k' dips 0) (lv1 s k) := by
  intro x _
  unfold lv1
  simp only [Bool.and_eq_true, decide_eq_true_eq, Fw]
  omega

def L1Rel (s : St) (w : World) (Bs Bp Bb : Nat) (ST PL : Array Value) (v : Value) (wr : World) : Prop :=
  ∃ k : Nat, s.sl ≤ (k : Int) ∧ (k : Int) ≤ s.sh + 1 ∧ v = .int .i64 k ∧ RowAt wr Bb (lv1 s k) ∧ LvEnv w Bs Bp ST PL wr
/-- All nights before one are done. -/
def L2Rel (s : St) (c k : Nat → Int) (dips : List Dp) (w : World) (Bs Bp Bb Bo : Nat) (ST PL : Array Value) (v : Value) (wr : World) : Prop :=
  ∃ i : Nat, i ≤ s.ns.length ∧ v = .int .i64 i ∧ LvEnv w Bs Bp ST PL wr ∧ (∃ f, RowAt wr Bb f ∧ IsRow (Fw s c k dips i) f) ∧ (∃ F, OutAt wr.heap.size wr Bo i F ∧ ∀ j, j < i → IsRow (Fw s c k dips (j + 1)) (F j)) ∧ ∃ o, Fw s c k dips i o
def L3Rel (s : St) (c k : Nat → Int) (dips : List Dp) (i : Nat) (f : Nat → Bool) (F : Nat → Nat → Bool) (w : World) (Bs Bp Bb Bo Bn : Nat) (ST PL : Array Value) (v : Value) (wr : World) : Prop :=
  ∃ oil : Nat, oil ≤ 401 ∧ v = .int .i64 oil ∧ LvEnv w Bs Bp ST PL wr ∧ RowAt wr Bb f ∧ OutAt Bn wr Bo i F ∧ ∃ g, RowAt wr Bn g ∧ IsRow (stepP s c k dips i f oil []) g
def L4Rel (s : St) (c k : Nat → Int) (dips : List Dp) (i : Nat) (f : Nat → Bool) (F : Nat → Nat → Bool) (oil : Nat) (l : List Int) (lv : Value) (w : World) (Bs Bp Bb Bo Bn : Nat) (ST PL : Array Value) (v : Value) (wr : World) : Prop :=
  ∃ m : Nat, m ≤ l.length ∧ v = .int .i64 m ∧ LvEnv w Bs Bp ST PL wr ∧ RowAt wr Bb f ∧ OutAt Bn wr Bo i F ∧ wr.ownsRow (Bn + 1) 3 1 lv l.length (l.map (Value.int .i64)) ∧ ∃ g, RowAt wr Bn g ∧ IsRow (stepP s c k dips i f oil (l.take m)) g

/-- How much is still to be gone back through. -/
def lvMeas (v : Value) (w : World) : Nat := match v with
  | .pointer (some a) => match w.cell? a with
    | some (.int _ n) => (n + 1).toNat
    | _ => 0
  | _ => 0
theorem lvMeas_at {w : World} {B : Nat} {n : Int} (h : w.cell? ⟨B, 0, none⟩ = some (.int .i64 n)) : lvMeas (.pointer (some ⟨B, 0, none⟩)) w = (n + 1).toNat := by simp [lvMeas, h]
def L5Rel (s : St) (c k : Nat → Int) (dips : List Dp) (w : World) (Bs Bp Bo g cap : Nat) (ST PL : Array Value) (v : Value) (wr : World) : Prop :=
  ∃ r Bi : Nat, r < s.ns.length ∧ v = .pointer (some ⟨Bi, 0, none⟩) ∧ g < Bi ∧ wr.heap[Bi]? = some (.cells #[.int .i64 ((r : Int) - 1)] 3 (0, 0)) ∧ LvEnv w Bs Bp ST PL wr ∧
    ∃ F, OutG wr Bo g cap s.ns.length F ∧ (∀ j, j < r → IsRow (Fw s c k dips (j + 1)) (F j)) ∧ ∀ j, r ≤ j → j < s.ns.length → IsRow (FB s c k dips j) (F j)
def L6Rel (s : St) (c k : Nat → Int) (i Bi : Nat) (F : Nat → Nat → Bool) (w : World) (Bs Bp Bo g cap : Nat) (ST PL : Array Value) (v : Value) (wr : World) : Prop :=
  ∃ oil : Nat, oil ≤ 401 ∧ v = .int .i64 oil ∧ wr.heap[Bi]? = some (.cells #[.int .i64 (i : Int)] 3 (0, 0)) ∧ LvEnv w Bs Bp ST PL wr ∧ OutG wr Bo g cap s.ns.length (fun j => if j = i then backF s c k i (F i) (F (i + 1)) oil else F j)

theorem alloc_other (w : World) (o : Obj) (h : Below w.heap.size w (w.alloc o)) : True := trivial

/-- How levels ends. -/
def LvPost (s : St) (c k : Nat → Int) (dips : List Dp) (w : World) (e : Ending) (w' : World) : Prop :=
  Below w.heap.size w w' ∧ ((¬ Cons s c k dips ∧ e = .returned (.tuple #[.slice none 0 0, .bool false])) ∨
    ∃ v xs F, e = .returned (.tuple #[v, .bool true]) ∧ Cons s c k dips ∧ w'.ownsRow w.heap.size 139 401 v s.ns.length xs ∧ RowsV xs s.ns.length F ∧ ∀ j, j < s.ns.length → IsRow (FB s c k dips j) (F j))

set_option maxRecDepth 100000 in
set_option maxHeartbeats 16000000 in
theorem levels_any (s : St) (A : Option Addr) (cp : Nat) (Ac Ak Ad : Option Addr) (cc ck cd : Nat) (c k : List Int) (dips : List Dp) (w : World) (hok : planL s c k = 0) (hdl : dips.length ≤ 100) (hA : NtsAt w A s.ns) (hc : IntsAt w (.slice Ac c.length cc) c) (hk : IntsAt w (.slice Ak k.length ck) k) (hd : DpsAt w Ad dips) :
    Calls Try.prog 74 #[.agg (#[.int .i64 s.cap, .int .i64 s.can, .int .i64 s.sl, .int .i64 s.sh, .slice A s.ns.length cp]), .agg (#[.slice Ac c.length cc, .slice Ak k.length ck]), .slice Ad dips.length cd] w (LvPost s (atL c) (atL k) dips w) := by
  obtain ⟨h, hcl, hkl, hpl⟩ := planL_zero.1 hok
  have HO := Lib.hid h
  have HOK := Lib.hid hok
  have HPL := Lib.hid hpl
  have HA := Lib.hid hA
  have HC := Lib.hid hc
  have HK := Lib.hid hk
  have HD := Lib.hid hd
  have hlen := h.len
  have hpos := h.pos
  have hs0 := h.s0
  have hs1 := h.s1
  have hs2 := h.s2
  have hcap := h.c1
  have hcap0 := h.c0
  clear h hok hpl hcl hkl hA hc hk hd
  have hB0 : Below w.heap.size w (((w.alloc (.cells (#[.int .i64 s.cap, .int .i64 s.can, .int .i64 s.sl, .int .i64 s.sh, .slice A s.ns.length cp]) 39)).alloc (.cells (#[.slice Ac c.length cc, .slice Ak k.length ck]) 44)).alloc (.cells Try.zeroCells139 139)) := (((Below.refl _ _).alloc (Nat.le_refl _) _).alloc (by simp) _).alloc (by simp <;> omega) _
  have hn0 : (((w.alloc (.cells (#[.int .i64 s.cap, .int .i64 s.can, .int .i64 s.sl, .int .i64 s.sh, .slice A s.ns.length cp]) 39)).alloc (.cells (#[.slice Ac c.length cc, .slice Ak k.length ck]) 44)).alloc (.cells Try.zeroCells139 139)).heap[w.heap.size]? = some (.cells (#[.int .i64 s.cap, .int .i64 s.can, .int .i64 s.sl, .int .i64 s.sh, .slice A s.ns.length cp]) 39 (0, 0)) := (Below.heap_alloc _ _ _ (by simp <;> omega)).trans ((Below.heap_alloc _ _ _ (by simp <;> omega)).trans (heap_new_at _ _ _ rfl))
  have hn1 : (((w.alloc (.cells (#[.int .i64 s.cap, .int .i64 s.can, .int .i64 s.sl, .int .i64 s.sh, .slice A s.ns.length cp]) 39)).alloc (.cells (#[.slice Ac c.length cc, .slice Ak k.length ck]) 44)).alloc (.cells Try.zeroCells139 139)).heap[w.heap.size + 1]? = some (.cells (#[.slice Ac c.length cc, .slice Ak k.length ck]) 44 (0, 0)) := (Below.heap_alloc _ _ _ (by simp <;> omega)).trans (heap_new_at _ _ _ (by simp))
  have hn2 : RowAt (((w.alloc (.cells (#[.int .i64 s.cap, .int .i64 s.can, .int .i64 s.sl, .int .i64 s.sh, .slice A s.ns.length cp]) 39)).alloc (.cells (#[.slice Ac c.length cc, .slice Ak k.length ck]) 44)).alloc (.cells Try.zeroCells139 139)) (w.heap.size + 1 + 1) (fun _ => false) := ⟨_, heap_new_at _ _ _ (by simp), zeros_row⟩
  have HE1 := Lib.hid (LvEnv.mk hB0 hn0 hn1)
  have HR1 := Lib.hid hn2
  clear hB0 hn0 hn1 hn2
  go_enter Try.func74, Try.ntmps74
  go_wp2_with fail
  generalize (((w.alloc (.cells (#[.int .i64 s.cap, .int .i64 s.can, .int .i64 s.sl, .int .i64 s.sh, .slice A s.ns.length cp]) 39)).alloc (.cells (#[.slice Ac c.length cc, .slice Ak k.length ck]) 44)).alloc (.cells Try.zeroCells139 139)) = w1 at HE1 HR1 ⊢
  obtain ⟨Bb, hBb⟩ : ∃ Bb, w.heap.size + 1 + 1 = Bb := ⟨_, rfl⟩
  obtain ⟨Bp, hBp⟩ : ∃ Bp, w.heap.size + 1 = Bp := ⟨_, rfl⟩
  obtain ⟨Bs, hBs⟩ : ∃ Bs, w.heap.size = Bs := ⟨_, rfl⟩
  have oBb : w.heap.size ≤ Bb := by omega
  have oBs : w.heap.size ≤ Bs := by omega
  have oBp : w.heap.size ≤ Bp := by omega
  have nsb : Bs ≠ Bb := by omega
  have npb : Bp ≠ Bb := by omega
  have nsb' : Bb ≠ Bs := by omega
  have npb' : Bb ≠ Bp := by omega
  have lsb : Bs < Bb := by omega
  have lpb : Bp < Bb := by omega
  rw [hBb] at HR1 ⊢
  rw [hBp] at HE1 ⊢
  have HE1 : Hid (LvEnv w Bs Bp (#[.int .i64 s.cap, .int .i64 s.can, .int .i64 s.sl, .int .i64 s.sh, .slice A s.ns.length cp]) (#[.slice Ac c.length cc, .slice Ak k.length ck]) w1) := by rw [← hBs]; exact HE1
  rw [hBs]
  clear hBb hBp hBs
  have c2 : w1.cell? ⟨Bs, 2, none⟩ = some (.int .i64 s.sl) := by simp [World.cell?, HE1.out.st]
  go_wp2_with fail
  obtain ⟨a, ha⟩ := Int.eq_ofNat_of_zero_le hs0
  have HSL := Lib.hid ha
  go_loopw [9] (L1Rel s w Bs Bp Bb (#[.int .i64 s.cap, .int .i64 s.can, .int .i64 s.sl, .int .i64 s.sh, .slice A s.ns.length cp]) (#[.slice Ac c.length cc, .slice Ak k.length ck])) (fun v _ => 500 - (intOf v).toNat)
  case atStart => exact ⟨a, by omega, by omega, by rw [HSL.out], HR1.out.congr (fun i _ => by unfold lv1; rw [HSL.out]; simp), HE1.out⟩
  case round =>
    clear HE1 HR1 c2 ha
    obtain ⟨q, hq0, hq1, rfl, hrow, henv⟩ := hrel
    have c3 : wr.cell? ⟨Bs, 3, none⟩ = some (.int .i64 s.sh) := by simp [World.cell?, henv.st]
    have HE := Lib.hid henv
    have HR := Lib.hid hrow
    by_cases hlt : (q : Int) ≤ s.sh
    · have hlt' : decide ((q : Int) ≤ s.sh) = true := decide_eq_true hlt
      have d0 := hrow.cell (i := q) (by omega)
      have z0 := hrow.frozen q
      have i1 : (q : Int) < 401 := by omega
      have i0 : (0 : Int) ≤ (q : Int) := by omega
      clear hrow henv
      go_wp2_with fail
      go_roundw
      case rel => exact ⟨q + 1, by omega, by omega, by go_num, (HR.out.set (by omega) true).congr (fun x _ => lv1_set hq0 x), HE.out.set oBb nsb npb _ _⟩
      case measure => simp [intOf]; omega
    · have hlt' : decide ((q : Int) ≤ s.sh) = false := decide_eq_false hlt
      have hfw := lv1_all (s := s) (k := q) (by omega) (atL c) (atL k) dips
      have HFW := Lib.hid hfw
      clear hrow henv hfw hlt
      have c4 : wr.cell? ⟨Bs, 4, none⟩ = some (.slice A s.ns.length cp) := by simp [World.cell?, HE.out.st]
      have hlb := HE.out.lts.2
      have hlbs := HE.out.lts.1
      go_wp2_with fail
      have hb2 : Below wr.heap.size wr (wr.alloc (.cells #[.slice none 0 0] 121)) := (Below.refl _ _).alloc (Nat.le_refl _) _
      have HE2 := Lib.hid (HE.out.keep hb2)
      have HR2 := Lib.hid (HR.out.keep hb2 (Nat.le_refl _))
      have ho2 : OutAt (wr.alloc (.cells #[.slice none 0 0] 121)).heap.size (wr.alloc (.cells #[.slice none 0 0] 121)) wr.heap.size 0 (fun _ _ => false) := ⟨_, [], Go.heap_alloc_new wr _, World.ownsRow_nil _ _ _ _, RowsV.nil _, fun g hg => by cases hg⟩
      have HO2 := Lib.hid ho2
      have hbo : Bb < wr.heap.size := HR.out.lt
      have hwz := HE.out.below.size
      clear c3 c4 hb2 ho2 HE HR
      generalize wr.alloc (.cells #[.slice none 0 0] 121) = w2 at HE2 HR2 HO2 ⊢
      obtain ⟨Bo, hBo⟩ : ∃ Bo, wr.heap.size = Bo := ⟨_, rfl⟩
      rw [hBo] at HO2 hbo hwz hlb hlbs ⊢
      have nbo : Bb ≠ Bo := by omega
      have nso : Bs ≠ Bo := by omega
      have npo : Bp ≠ Bo := by omega
      have nob : Bo ≠ Bb := by omega
      clear hBo
      go_loopw [35] (L2Rel s (atL c) (atL k) dips w Bs Bp Bb Bo (#[.int .i64 s.cap, .int .i64 s.can, .int .i64 s.sl, .int .i64 s.sh, .slice A s.ns.length cp]) (#[.slice Ac c.length cc, .slice Ak k.length ck])) (fun v _ => s.ns.length - (intOf v).toNat)
      case atStart => exact ⟨0, by omega, rfl, HE2.out, ⟨_, HR2.out, HFW.out⟩, ⟨_, HO2.out, fun j h => by omega⟩, ⟨s.sl, by simp only [Fw]; omega⟩⟩
      case round =>
        clear HE2 HR2 HO2 HFW
        obtain ⟨wo, rfl⟩ : ∃ wo : World, wo = wr := ⟨_, rfl⟩
        rename_i wq
        obtain ⟨i, hi, rfl, henv, ⟨f, hrow, hf⟩, ⟨F, hout, hF⟩, hne⟩ := hrel
        have HE := Lib.hid henv
        have HR := Lib.hid hrow
        have HF := Lib.hid hf
        have HOUT := Lib.hid hout
        have HFF := Lib.hid hF
        have HNE := Lib.hid hne
        clear henv hrow hf hout hF hne
        by_cases hlt : i < s.ns.length
        · have hlt' : decide ((i : Int) < (s.ns.length : Int)) = true := by simp; omega
          obtain ⟨cs, hcb, hcs⟩ := HR.out
          have hb3 : Below wo.heap.size wo (wo.alloc (.cells Try.zeroCells139 139)) := (Below.refl _ _).alloc (Nat.le_refl _) _
          have HCB := Lib.hid ((hb3.block _ HR.out.lt).trans hcb)
          have HCS := Lib.hid hcs
          have HE3 := Lib.hid (HE.out.keep hb3)
          have HR3 := Lib.hid (HR.out.keep hb3 (Nat.le_refl _))
          have HOUT3 := Lib.hid (HOUT.out.keep hb3)
          have HN3 := Lib.hid ((RowAt.new wo).congr (g := fun _ => false) (fun _ _ => rfl))
          have lbo := HOUT.out.lt
          have lwo := HE.out.below.size
          have hix := Lib.hid (fun (W : World) (k : Nat) (hk : k < 401) => run_index_row hcs hk W)
          clear hcb hcs hb3 HE HR HOUT
          go_wp2_with (refine wpList_load_row rfl 139 _ rfl _ rfl 139 cs _ _ HCB.out Try.underlying139 rfl HCS.out.info ?_)
          generalize wo.alloc (.cells Try.zeroCells139 139) = w3 at HE3 HR3 HOUT3 HN3 HCB ⊢
          obtain ⟨Bn, hBn⟩ : ∃ Bn, wo.heap.size = Bn := ⟨_, rfl⟩
          rw [hBn] at HOUT3 HN3 lbo lwo ⊢
          have nbn : Bb ≠ Bn := by omega
          have nsn : Bs ≠ Bn := by omega
          have npn : Bp ≠ Bn := by omega
          have non : Bo ≠ Bn := by omega
          clear hBn HCB
          go_loopw [39] (L3Rel s (atL c) (atL k) dips i f F w Bs Bp Bb Bo Bn (#[.int .i64 s.cap, .int .i64 s.can, .int .i64 s.sl, .int .i64 s.sh, .slice A s.ns.length cp]) (#[.slice Ac c.length cc, .slice Ak k.length ck])) (fun v _ => 401 - (intOf v).toNat)
          case atStart => exact ⟨0, by omega, rfl, HE3.out, HR3.out, HOUT3.out, _, HN3.out, step_start _ _ _ _ _ _⟩
          case round =>
            clear HE3 HR3 HOUT3 HN3
            obtain ⟨oil, hoil, rfl, henv, hrow, hout, g, hg, hst⟩ := hrel
            have HE := Lib.hid henv
            have HR := Lib.hid hrow
            have HOUT := Lib.hid hout
            have HG := Lib.hid hg
            have HST := Lib.hid hst
            clear henv hrow hout hg hst
            by_cases hol : oil < 401
            · have hol' : decide ((oil : Int) < 401) = true := by simp; omega
              have hx := hix.out wr oil hol
              cases hfo : f oil with
              | false =>
                rw [hfo] at hx
                have HS2 := Lib.hid (step_skip HST.out hfo)
                clear hfo HST
                go_wp2_with fail
                go_roundw
                case rel => exact ⟨oil + 1, by omega, by go_num, HE.out, HR.out, HOUT.out, g, HG.out, HS2.out⟩
                case measure => simp [intOf]; omega
              | true =>
                rw [hfo] at hx
                have HFO := Lib.hid hfo
                clear hfo
                have hn := Lib.hid (night_any s A cp Ac Ak cc ck c k i (oil : Int) wr HOK.out hlt ⟨by omega, by omega⟩ (HA.out.keep HE.out.below (Nat.le_refl _)) (HC.out.keep HE.out.below (Nat.le_refl _)) (HK.out.keep HE.out.below (Nat.le_refl _)))
                have b0 : wr.cell? ⟨Bs, 0, none⟩ = some (.int .i64 s.cap) := by simp [World.cell?, HE.out.st]
                have b1 : wr.cell? ⟨Bs, 1, none⟩ = some (.int .i64 s.can) := by simp [World.cell?, HE.out.st]
                have b2 : wr.cell? ⟨Bs, 2, none⟩ = some (.int .i64 s.sl) := by simp [World.cell?, HE.out.st]
                have b3 : wr.cell? ⟨Bs, 3, none⟩ = some (.int .i64 s.sh) := by simp [World.cell?, HE.out.st]
                have b4 : wr.cell? ⟨Bs, 4, none⟩ = some (.slice A s.ns.length cp) := by simp [World.cell?, HE.out.st]
                have b5 : wr.cell? ⟨Bp, 0, none⟩ = some (.slice Ac c.length cc) := by simp [World.cell?, HE.out.pl]
                have b6 : wr.cell? ⟨Bp, 1, none⟩ = some (.slice Ak k.length ck) := by simp [World.cell?, HE.out.pl]
                go_wp2_with fail
                refine hn.out.mono ?_
                rintro e w4 ⟨lv, rfl, hown, hb4⟩
                clear b0 b1 b2 b3 b4 b5 b6 hn
                have lbn4 := HG.out.lt
                have hia : w4.ownsRow (Bn + 1) 3 1 lv (nightF s (atL c) (atL k) i oil).length ((nightF s (atL c) (atL k) i oil).map (Value.int .i64)) := hown.lower (by omega)
                have hbd : ∀ x, x ∈ nightF s (atL c) (atL k) i oil → 0 ≤ x ∧ x ≤ 400 := fun x hx => nightF_bd HO.out HPL.out hlt (by omega) hx
                obtain ⟨l, hl⟩ : ∃ l, nightF s (atL c) (atL k) i oil = l := ⟨_, rfl⟩
                have hll : l.length = burnsN s i := by rw [← hl]; exact nightL_len _ _ _ _ _ _
                have hl11 : l.length ≤ 11 := by
                  have := HO.out.nt i hlt
                  unfold burnsN at hll
                  omega
                rw [hl] at hia hbd
                have HL := Lib.hid hl
                have HBD := Lib.hid hbd
                have HIA := Lib.hid hia
                have HE4 := Lib.hid (HE.out.keep hb4)
                have HR4 := Lib.hid (HR.out.keep hb4 (Nat.le_refl _))
                have HOUT4 := Lib.hid (HOUT.out.keep hb4)
                have HG4 := Lib.hid (HG.out.keep hb4 (Nat.le_refl _))
                obtain ⟨lA, lcap, rfl⟩ := (IntsAt.of_own hia).slice
                clear hown hb4 hl hbd hia HE HR HOUT HG hll
                go_wp2_with fail
                go_loopw [51] (L4Rel s (atL c) (atL k) dips i f F oil l (.slice lA l.length lcap) w Bs Bp Bb Bo Bn (#[.int .i64 s.cap, .int .i64 s.can, .int .i64 s.sl, .int .i64 s.sh, .slice A s.ns.length cp]) (#[.slice Ac c.length cc, .slice Ak k.length ck])) (fun v _ => l.length - (intOf v).toNat)
                case atStart => exact ⟨0, by omega, rfl, HE4.out, HR4.out, HOUT4.out, HIA.out, g, HG4.out, by simpa using HST.out⟩
                case round =>
                  clear HE4 HR4 HOUT4 HIA HG4 HST hx
                  obtain ⟨m, hm, rfl, henv, hrow, hout, hia, g', hg, hst⟩ := hrel
                  have HE := Lib.hid henv
                  have HR := Lib.hid hrow
                  have HOUT := Lib.hid hout
                  have HG := Lib.hid hg
                  have HST := Lib.hid hst
                  have HIA := Lib.hid hia
                  clear henv hrow hout hg hst hia
                  by_cases hml : m < l.length
                  · have hml' : decide ((m : Int) < (l.length : Int)) = true := by simp; omega
                    obtain ⟨bl, ol, rfl, e0⟩ := (IntsAt.of_own HIA.out).at hml
                    have hxb := HBD.out (atL l m) (by rw [atL_at hml]; exact List.getElem_mem hml)
                    have i0 : (0 : Int) ≤ (m : Int) := by omega
                    have i1 : (m : Int) < (l.length : Int) := by omega
                    obtain ⟨y, hy⟩ := Int.eq_ofNat_of_zero_le hxb.1
                    have htk : l.take (m + 1) = l.take m ++ [(y : Int)] := by rw [List.take_succ_eq_append_getElem hml, ← atL_at hml, hy]
                    rw [hy] at e0 hxb
                    have HTK := Lib.hid htk
                    have y0 : (0 : Int) ≤ (y : Int) := by omega
                    have y1 : (y : Int) < 401 := by omega
                    have d0 := HG.out.cell (i := y) (by omega)
                    have z0 := HG.out.frozen y
                    have lbn := HG.out.lt
                    clear htk hy hxb
                    cases hgy : g' y with
                    | true =>
                      rw [hgy] at d0
                      have HGY := Lib.hid hgy
                      clear hgy
                      have HS2 := Lib.hid (step_one HST.out (y := y) (by omega))
                      clear HST
                      go_wp2_with fail
                      go_roundw
                      case rel => exact ⟨m + 1, by omega, by go_num, HE.out.set (by omega) nsn npn _ _, HR.out.of_block (Below.heap_setCell _ _ _ _ nbn), HOUT.out.other non (.inr (Nat.le_refl _)) _ _, ownsRow_setCell_below HIA.out (by simp) _, _, HG.out.set (by omega) true, by rw [HTK.out]; have := HS2.out; rw [HGY.out] at this; exact this⟩
                      case measure => simp [intOf]; omega
                    | false =>
                      rw [hgy] at d0
                      have HGY := Lib.hid hgy
                      clear hgy
                      have HS2 := Lib.hid (step_one HST.out (y := y) (by omega))
                      have ha := Lib.hid (agrees_any Ad cd dips i (y : Int) wr hdl (HD.out.keep HE.out.below (Nat.le_refl _)))
                      obtain ⟨ab, hab⟩ : ∃ ab, agN dips i (y : Int) = ab := ⟨_, rfl⟩
                      rw [hab] at ha
                      have HAB := Lib.hid hab
                      clear HST hab
                      go_wp2_with fail
                      refine ha.out.mono ?_
                      rintro e w5 ⟨rfl, hb5⟩
                      have HE5 := Lib.hid (HE.out.keep hb5)
                      have HR5 := Lib.hid (HR.out.keep hb5 (Nat.le_refl _))
                      have HOUT5 := Lib.hid (HOUT.out.keep hb5)
                      have hg5 := HG.out.keep hb5 (Nat.le_refl _)
                      have HG5 := Lib.hid hg5
                      have HIA5 := Lib.hid (HIA.out.kept (Go_grown_of_below hb5) (own_none _))
                      have lbn5 := hg5.lt
                      have d5 := hg5.cell (i := y) (by omega)
                      have z5 := hg5.frozen y
                      rw [HGY.out] at d5
                      clear d0 z0 hg5 hb5 e0 ha HE HR HOUT HG HIA
                      go_wp2_with fail
                      go_roundw
                      case rel => exact ⟨m + 1, by omega, by go_num, HE5.out.set (by omega) nsn npn _ _, HR5.out.of_block (Below.heap_setCell _ _ _ _ nbn), HOUT5.out.other non (.inr (Nat.le_refl _)) _ _, ownsRow_setCell_below HIA5.out (by simp) _, _, HG5.out.set (by omega) ab, by rw [HTK.out]; have := HS2.out; rw [HGY.out, HAB.out] at this; exact this⟩
                      case measure => simp [intOf]; omega
                  · have hml' : decide ((m : Int) < (l.length : Int)) = false := by simp; omega
                    obtain rfl : m = l.length := by omega
                    have hst' := HST.out
                    rw [List.take_length, ← HL.out] at hst'
                    have HS2 := Lib.hid (step_done hst' HFO.out)
                    clear hst' HST HIA
                    go_wp2_with fail
                    go_roundw
                    case rel => exact ⟨oil + 1, by omega, by go_num, HE.out, HR.out, HOUT.out, g', HG.out, HS2.out⟩
                    case measure => simp [intOf]; omega
            · have hol' : decide ((oil : Int) < 401) = false := by simp; omega
              obtain rfl : oil = 401 := by omega
              have HFW2 := Lib.hid (step_all HO.out HPL.out hlt HF.out HST.out)
              have hrn := row_none HO.out HPL.out (by omega : i + 1 ≤ s.ns.length) HFW2.out
              have hem := emptyB_iff (f := g)
              obtain ⟨gs, hgb, hgs⟩ := HG.out
              have HGB := Lib.hid hgb
              have HGS := Lib.hid hgs
              have heq := fun W => run_rows_eq hgs W
              obtain ⟨eb, heb⟩ : ∃ eb, emptyB g = eb := ⟨_, rfl⟩
              rw [heb] at heq hem
              have HRN := Lib.hid hrn
              have HEM := Lib.hid hem
              obtain ⟨v, xs, o1, o2, o3, o4⟩ := HOUT.out
              have HOB := Lib.hid o1
              have HOWN := Lib.hid o2
              have HRX := Lib.hid o3
              have HV := Lib.hid o4
              clear hgb hgs heb HG HST hix hrn hem o1 o2 o3 o4
              cases eb with
              | true =>
                have hcn : ¬ Cons s (atL c) (atL k) dips := fun h => (HRN.out.1 (HEM.out.1 rfl)) (fw_up (by omega) (fw_cons.2 h))
                have hfin : LvPost s (atL c) (atL k) dips w (.returned (.tuple #[.slice none 0 0, .bool false])) wr := ⟨HE.out.below, .inl ⟨hcn, rfl⟩⟩
                have HFIN := Lib.hid hfin
                clear hcn hfin
                go_wp2_with (refine wpList_load_row rfl 139 _ rfl _ rfl 139 gs _ _ HGB.out Try.underlying139 rfl HGS.out.info ?_)
                go_ret2
                exact HFIN.out
              | false =>
                have hne2 : ∃ o, Fw s (atL c) (atL k) dips (i + 1) o := Classical.byContradiction fun h => by
                  have := HEM.out.2 (HRN.out.2 h)
                  cases this
                have HNE2 := Lib.hid hne2
                clear hne2 HRN HEM
                go_wp2_with (refine wpList_load_row rfl 139 _ rfl _ rfl 139 gs _ _ HGB.out Try.underlying139 rfl HGS.out.info ?_)
                clear heq
                have cO : wr.cell? ⟨Bo, 0, none⟩ = some v := by simp [World.cell?, HOB.out]
                have rg : wr.rangeAt Bn 0 gs.toList := rangeAt_block HGB.out
                obtain ⟨cs0, hcb0, hcs0⟩ := HR.out
                have HCB0 := Lib.hid hcb0
                have HCS0 := Lib.hid hcs0
                have HVB := Lib.hid (fun r e => (HOWN.out.lt r e).1)
                obtain ⟨i0, hi0', hz0', hz1', hz2'⟩ := info_parts Try.info139'
                have hi0 := Lib.hid hi0'
                have hz0 := Lib.hid hz0'
                have hz1 := Lib.hid hz1'
                have hz2 := Lib.hid hz2'
                have lbb := HR.out.lt
                clear hcb0 hcs0 hi0' hz0' hz1' hz2'
                have hobn := HOUT.out.lt
                have lbn := (Array.getElem?_eq_some_iff.1 HGB.out).1
                refine wp_region_held_drew (S := fun X => X.rangeAt Bn 0 gs.toList) (by kernel_rfl) (rg) (fun hS0 => ?_)
                refine wpAnyH_take (i := 1) (oi := ⟨some 72, .load 139 (.tmp 12), 139, "oil.go:57", #[], none⟩) rfl (by kernel_rfl) (by kernel_rfl) (by kernel_rfl) (fun _ _ _ h => h) (yieldsIf_load_mid (by rfl) _ _ rfl _ _ rfl gs.toList _ (fun X hX => hX) Try.underlying139 rfl (by rw [Array.length_toList]; exact HGS.out.info)) hS0 ?_
                simp only [Act.put, List.setIfInBounds_toArray, List.set_cons_zero, List.set_cons_succ, Array.toArray_toList]
                refine wpAnyH_take (i := 4) (oi := ⟨some 75, .load 139 (.tmp 12), 139, "oil.go:57", #[{ on := 5, ground := Ground.gcOnly Departure.lateStores }], none⟩) rfl (by kernel_rfl) (by kernel_rfl) (by kernel_rfl) (fun _ _ _ h => h) (yieldsIf_load_mid (by rfl) _ _ rfl _ _ rfl gs.toList _ (fun X hX => hX) Try.underlying139 rfl (by rw [Array.length_toList]; exact HGS.out.info)) hS0 ?_
                simp only [Act.put, List.setIfInBounds_toArray, List.set_cons_zero, List.set_cons_succ, Array.toArray_toList]
                refine wpAnyH_ready (rs := [0, 2]) (by kernel_rfl) (by simp) (AllReadyH.cons (o := ⟨some 71, .load 121 (.tmp 10), 121, "oil.go:57", #[], none⟩) rfl (fun K hK => ?_) (AllReadyH.cons (o := ⟨some 73, .buildSlice 121 1 #[(0, .tmp 72)], 121, "oil.go:57", #[⟨1, .data⟩], none⟩) rfl (fun K hK => ?_) AllReadyH.nil))
                · skip
                  go_simp
                  refine hK.out _ _ (hS0) (fun hS1 => ?_)
                  clear hS0 hK K
                  refine wpAnyH_ready (rs := [2]) (by kernel_rfl) (by simp) (AllReadyH.cons (o := ⟨some 73, .buildSlice 121 1 #[(0, .tmp 72)], 121, "oil.go:57", #[⟨1, .data⟩], none⟩) rfl (fun K hK => ?_) AllReadyH.nil)
                  refine step_buildRow HGS.out (by rfl) (.tmp 72) (by rfl) (by rfl) ?_
                  refine hK.out _ _ ((rangeAt_alloc' hS1 lbn)) (fun hS2 => ?_)
                  clear hS1 hK K
                  simp only [Act.put, List.setIfInBounds_toArray, List.set_cons_zero, List.set_cons_succ, Array.toArray_toList]
                  refine wpAnyH_ready (rs := [3]) (by kernel_rfl) (by simp) (AllReadyH.cons (o := ⟨some 74, .call ⟨.builtin .append, #[.tmp 71, .tmp 73], #[121, 121]⟩, 121, "oil.go:57", #[⟨0, .data⟩, ⟨2, .data⟩], none⟩) rfl (fun K hK => ?_) AllReadyH.nil)
                  refine step_append_lies _ (by rfl) _ _ _ (by rfl) (Bo + 1) 139 i0 _ 401 401 Try.underlying121 hi0.out hz0.out hz1.out hz2.out zeros_row.1 (by omega) v i xs (by rfl) (own_drew_alloc HOWN.out _) ⟨wr.heap.size, 0, none⟩ 1 1 gs.toList (by rfl) (by simp [HGS.out.1]) (World.news_of_block (cs := gs) (t := 139) (fr := (0, 0)) (Go.heap_alloc_new wr.drew _)) (fun u hu => HGS.out.mem_one hu) (by omega) (by unfold maxLen; omega) (by omega) (by simp; omega) (wr.heap.size + 1) (by simp) ?_
                  intro qq cap' w5 hown5 hgrow hat hlt5
                  have k1 := blocks_app hgrow HVB.out lbn (.inr HV.out)
                  have k2 := blocks_app hgrow HVB.out hobn (.inl (Nat.le_refl _))
                  have k3 := blocks_app hgrow HVB.out lbb (.inl (by omega))
                  have c5 : w5.cell? ⟨Bo, 0, none⟩ = some v := (World.cell?_of_block (a := ⟨Bo, 0, none⟩) k2).trans cO
                  have z5 : w5.frozen? ⟨Bo, 0, none⟩ = false := by simp [World.frozen?, k2, HOB.out]
                  have r5 : w5.rangeAt Bn 0 gs.toList := rangeAt_of rg k1
                  have HK3 := Lib.hid k3
                  have HOWN5 := Lib.hid hown5
                  have HGROW := Lib.hid hgrow
                  clear k1 k2 k3 hat hgrow hown5
                  refine hK.out _ _ (r5) (fun hS3 => ?_)
                  clear hS2 hK K
                  simp only [Act.put, List.setIfInBounds_toArray, List.set_cons_zero, List.set_cons_succ, Array.toArray_toList]
                  refine wpAnyH_ready (rs := [5]) (by kernel_rfl) (by simp) (AllReadyH.cons (o := ⟨none, .store 121 (.tmp 10) (.tmp 74), 0, "oil.go:57", #[⟨3, .data⟩, ⟨3, .chain⟩, ⟨0, .phase⟩, ⟨1, .phase⟩, ⟨2, .phase⟩, ⟨3, .phase⟩, ⟨4, .textOnly .lateStores⟩], none⟩) rfl (fun K hK => ?_) AllReadyH.nil)
                  go_simp
                  refine hK.out _ _ ((rangeAt_set' r5 (Ne.symm non) _ _)) (fun hS4 => ?_)
                  clear hS3 hK K
                  refine wpAnyH_ready (rs := [6]) (by kernel_rfl) (by simp) (AllReadyH.cons (o := ⟨none, .store 139 (.tmp 8) (.tmp 75), 0, "oil.go:57", #[⟨4, .data⟩, ⟨5, .chain⟩, ⟨0, .phase⟩, ⟨1, .phase⟩, ⟨2, .phase⟩, ⟨3, .phase⟩, ⟨4, .phase⟩, ⟨5, .phase⟩], none⟩) rfl (fun K hK => ?_) AllReadyH.nil)
                  rw [if_pos (by rfl)]
                  refine wp_store_row 139 _ _ (by rfl) Bb gs (by rfl) (by rfl) 139 cs0 ((Below.heap_setCell _ _ _ _ nbo).trans (HK3.out.trans HCB0.out)) HGS.out.info (by rw [HGS.out.1, HCS0.out.1]) HGS.out.one ?_
                  refine hK.out _ _ ((rangeAt_row' (rangeAt_set' r5 (Ne.symm non) _ _) (Ne.symm nbn) _)) (fun hS5 => ?_)
                  clear hS4 hK K
                  simp only [Act.put, List.setIfInBounds_toArray, List.set_cons_zero, List.set_cons_succ, Array.toArray_toList]
                  refine wpAnyH_done (by kernel_rfl) ?_ _
                  clear hS5
                  have hrd := row_done HE.out HR.out HOB.out HRX.out HGS.out HOWN5.out HGROW.out HVB.out lsb lpb hbo oBb
                  have HRD1 := Lib.hid hrd.1
                  have HRD2 := Lib.hid hrd.2.1
                  have HRD3 := Lib.hid hrd.2.2
                  clear hrd c5 z5 r5 HK3 HOWN5 HGROW cO rg
                  go_wp2_with fail
                  go_roundw
                  case rel => exact ⟨i + 1, by omega, by go_num, HRD1.out, ⟨g, HRD2.out, HFW2.out⟩, ⟨_, HRD3.out, fun j hj => by
                    by_cases e : j = i
                    · subst e; simpa using HFW2.out
                    · simpa [e] using HFF.out j (by omega)⟩, HNE2.out⟩
                  case measure => simp [intOf]; omega
                · skip
                  refine step_buildRow HGS.out (by rfl) (.tmp 72) (by rfl) (by rfl) ?_
                  refine hK.out _ _ ((rangeAt_alloc' hS0 lbn)) (fun hS1 => ?_)
                  clear hS0 hK K
                  refine wpAnyH_ready (rs := [0]) (by kernel_rfl) (by simp) (AllReadyH.cons (o := ⟨some 71, .load 121 (.tmp 10), 121, "oil.go:57", #[], none⟩) rfl (fun K hK => ?_) AllReadyH.nil)
                  go_simp
                  refine hK.out _ _ (hS1) (fun hS2 => ?_)
                  clear hS1 hK K
                  refine wpAnyH_ready (rs := [3]) (by kernel_rfl) (by simp) (AllReadyH.cons (o := ⟨some 74, .call ⟨.builtin .append, #[.tmp 71, .tmp 73], #[121, 121]⟩, 121, "oil.go:57", #[⟨0, .data⟩, ⟨2, .data⟩], none⟩) rfl (fun K hK => ?_) AllReadyH.nil)
                  refine step_append_lies _ (by rfl) _ _ _ (by rfl) (Bo + 1) 139 i0 _ 401 401 Try.underlying121 hi0.out hz0.out hz1.out hz2.out zeros_row.1 (by omega) v i xs (by rfl) (own_drew_alloc HOWN.out _) ⟨wr.heap.size, 0, none⟩ 1 1 gs.toList (by rfl) (by simp [HGS.out.1]) (World.news_of_block (cs := gs) (t := 139) (fr := (0, 0)) (Go.heap_alloc_new wr.drew _)) (fun u hu => HGS.out.mem_one hu) (by omega) (by unfold maxLen; omega) (by omega) (by simp; omega) (wr.heap.size + 1) (by simp) ?_
                  intro qq cap' w5 hown5 hgrow hat hlt5
                  have k1 := blocks_app hgrow HVB.out lbn (.inr HV.out)
                  have k2 := blocks_app hgrow HVB.out hobn (.inl (Nat.le_refl _))
                  have k3 := blocks_app hgrow HVB.out lbb (.inl (by omega))
                  have c5 : w5.cell? ⟨Bo, 0, none⟩ = some v := (World.cell?_of_block (a := ⟨Bo, 0, none⟩) k2).trans cO
                  have z5 : w5.frozen? ⟨Bo, 0, none⟩ = false := by simp [World.frozen?, k2, HOB.out]
                  have r5 : w5.rangeAt Bn 0 gs.toList := rangeAt_of rg k1
                  have HK3 := Lib.hid k3
                  have HOWN5 := Lib.hid hown5
                  have HGROW := Lib.hid hgrow
                  clear k1 k2 k3 hat hgrow hown5
                  refine hK.out _ _ (r5) (fun hS3 => ?_)
                  clear hS2 hK K
                  simp only [Act.put, List.setIfInBounds_toArray, List.set_cons_zero, List.set_cons_succ, Array.toArray_toList]
                  refine wpAnyH_ready (rs := [5]) (by kernel_rfl) (by simp) (AllReadyH.cons (o := ⟨none, .store 121 (.tmp 10) (.tmp 74), 0, "oil.go:57", #[⟨3, .data⟩, ⟨3, .chain⟩, ⟨0, .phase⟩, ⟨1, .phase⟩, ⟨2, .phase⟩, ⟨3, .phase⟩, ⟨4, .textOnly .lateStores⟩], none⟩) rfl (fun K hK => ?_) AllReadyH.nil)
                  go_simp
                  refine hK.out _ _ ((rangeAt_set' r5 (Ne.symm non) _ _)) (fun hS4 => ?_)
                  clear hS3 hK K
                  refine wpAnyH_ready (rs := [6]) (by kernel_rfl) (by simp) (AllReadyH.cons (o := ⟨none, .store 139 (.tmp 8) (.tmp 75), 0, "oil.go:57", #[⟨4, .data⟩, ⟨5, .chain⟩, ⟨0, .phase⟩, ⟨1, .phase⟩, ⟨2, .phase⟩, ⟨3, .phase⟩, ⟨4, .phase⟩, ⟨5, .phase⟩], none⟩) rfl (fun K hK => ?_) AllReadyH.nil)
                  rw [if_pos (by rfl)]
                  refine wp_store_row 139 _ _ (by rfl) Bb gs (by rfl) (by rfl) 139 cs0 ((Below.heap_setCell _ _ _ _ nbo).trans (HK3.out.trans HCB0.out)) HGS.out.info (by rw [HGS.out.1, HCS0.out.1]) HGS.out.one ?_
                  refine hK.out _ _ ((rangeAt_row' (rangeAt_set' r5 (Ne.symm non) _ _) (Ne.symm nbn) _)) (fun hS5 => ?_)
                  clear hS4 hK K
                  simp only [Act.put, List.setIfInBounds_toArray, List.set_cons_zero, List.set_cons_succ, Array.toArray_toList]
                  refine wpAnyH_done (by kernel_rfl) ?_ _
                  clear hS5
                  have hrd := row_done HE.out HR.out HOB.out HRX.out HGS.out HOWN5.out HGROW.out HVB.out lsb lpb hbo oBb
                  have HRD1 := Lib.hid hrd.1
                  have HRD2 := Lib.hid hrd.2.1
                  have HRD3 := Lib.hid hrd.2.2
                  clear hrd c5 z5 r5 HK3 HOWN5 HGROW cO rg
                  go_wp2_with fail
                  go_roundw
                  case rel => exact ⟨i + 1, by omega, by go_num, HRD1.out, ⟨g, HRD2.out, HFW2.out⟩, ⟨_, HRD3.out, fun j hj => by
                    by_cases e : j = i
                    · subst e; simpa using HFW2.out
                    · simpa [e] using HFF.out j (by omega)⟩, HNE2.out⟩
                  case measure => simp [intOf]; omega
        · have hlt' : decide ((i : Int) < (s.ns.length : Int)) = false := by simp; omega
          obtain rfl : i = s.ns.length := by omega
          obtain ⟨g, cap, hG⟩ := OutG.of_at HOUT.out hpos
          have cO : wo.cell? ⟨Bo, 0, none⟩ = some (.slice (some ⟨g, 0, none⟩) s.ns.length cap) := by simp [World.cell?, hG.var]
          have hgl := hG.lts
          have HG := Lib.hid hG
          have hF9 : ∀ j, s.ns.length - 1 ≤ j → j < s.ns.length → IsRow (FB s (atL c) (atL k) dips j) (F j) := fun j h1 h2 => fb_last (by omega) (HFF.out j h2)
          have HF9 := Lib.hid hF9
          have hcn : Cons s (atL c) (atL k) dips := fw_cons.1 HNE.out
          have HCN := Lib.hid hcn
          clear hG HOUT HR hF9 HNE HF hcn
          go_wp2_with fail
          have hbi : Below wo.heap.size wo (wo.alloc (.cells #[.int .i64 ((s.ns.length : Int) - 2)] 3)) := (Below.refl _ _).alloc (Nat.le_refl _) _
          have HE7 := Lib.hid (HE.out.keep hbi)
          have HG7 := Lib.hid (HG.out.keep hbi)
          have HI7 := Lib.hid (Go.heap_alloc_new wo (.cells #[.int .i64 ((s.ns.length : Int) - 2)] 3))
          clear hbi HE HG cO
          generalize wo.alloc (.cells #[.int .i64 ((s.ns.length : Int) - 2)] 3) = w7 at HE7 HG7 HI7 ⊢
          obtain ⟨B7, hB7⟩ : ∃ B, wo.heap.size = B := ⟨_, rfl⟩
          rw [hB7] at HI7 hgl ⊢
          clear hB7
          go_loopw [17] (L5Rel s (atL c) (atL k) dips w Bs Bp Bo g cap (#[.int .i64 s.cap, .int .i64 s.can, .int .i64 s.sl, .int .i64 s.sh, .slice A s.ns.length cp]) (#[.slice Ac c.length cc, .slice Ak k.length ck])) (fun v W => lvMeas v W)
          case atStart => exact ⟨s.ns.length - 1, B7, by omega, rfl, hgl.2.1, by rw [HI7.out, show (((s.ns.length - 1 : Nat) : Int) - 1) = (s.ns.length : Int) - 2 by omega], HE7.out, F, HG7.out, fun j hj => HFF.out j (by omega), HF9.out⟩
          case round =>
            clear HE7 HG7 HI7 HF9 HFF hgl
            obtain ⟨w8, rfl⟩ : ∃ w8 : World, w8 = wr := ⟨_, rfl⟩
            obtain ⟨r, Bi, hr, rfl, hgb, hbi, henv, G, hG, hF1, hF2⟩ := hrel
            have HE := Lib.hid henv
            have HG := Lib.hid hG
            have HF1 := Lib.hid hF1
            have HF2 := Lib.hid hF2
            have HI := Lib.hid hbi
            have hgl := hG.lts
            clear henv hF1 hF2 hG hbi
            cases r with
            | zero =>
              have cI : w8.cell? ⟨Bi, 0, none⟩ = some (.int .i64 (-1)) := by simp [World.cell?, HI.out]
              have cO : w8.cell? ⟨Bo, 0, none⟩ = some (.slice (some ⟨g, 0, none⟩) s.ns.length cap) := by simp [World.cell?, HG.out.var]
              obtain ⟨xs, hx1, hx2⟩ := HG.out.own
              have hfin : LvPost s (atL c) (atL k) dips w (.returned (.tuple #[.slice (some ⟨g, 0, none⟩) s.ns.length cap, .bool true])) w8 := ⟨HE.out.below, .inr ⟨_, xs, G, rfl, HCN.out, hx1.lower (by omega), hx2, fun j hj => HF2.out j (Nat.zero_le _) hj⟩⟩
              have HFIN := Lib.hid hfin
              clear hx1 hx2 hfin
              go_wp2_with fail
              go_ret2
              exact HFIN.out
            | succ i =>
              have cI : w8.cell? ⟨Bi, 0, none⟩ = some (.int .i64 (i : Int)) := by simp [World.cell?, HI.out]
              have cO : w8.cell? ⟨Bo, 0, none⟩ = some (.slice (some ⟨g, 0, none⟩) s.ns.length cap) := by simp [World.cell?, HG.out.var]
              have i0 : (0 : Int) ≤ (i : Int) := by omega
              have i1 : (i : Int) < (s.ns.length : Int) := by omega
              have i0' : decide ((0 : Int) ≤ (i : Int)) = true := by simp
              obtain ⟨csr, hcs1, hcs2⟩ := HG.out.row (i := i) (by omega)
              have HC1 := Lib.hid hcs1
              have HC2 := Lib.hid hcs2
              clear hcs1 hcs2
              go_wp2_with (refine wpList_load_mid rfl 139 _ rfl g (i * 401) rfl csr _ HC2.out Try.underlying139 rfl (by rw [← List.size_toArray]; exact HC1.out.info) ?_)
              have hix := Lib.hid (fun (W : World) (k : Nat) (hk : k < 401) => run_index_row HC1.out hk W)
              have lbo : Bo < Bi := by omega
              have nio : Bi ≠ g := by omega
              have nsg : Bs ≠ g := by omega
              have npg : Bp ≠ g := by omega
              have nsi : Bs ≠ Bi := by omega
              have npi : Bp ≠ Bi := by omega
              have wlg : w.heap.size ≤ g := by omega
              have lgi := (Array.getElem?_eq_some_iff.1 HI.out).1
              have HM8 := Lib.hid cI
              clear cI cO HC2
              go_loopw [88] (L6Rel s (atL c) (atL k) i Bi G w Bs Bp Bo g cap (#[.int .i64 s.cap, .int .i64 s.can, .int .i64 s.sl, .int .i64 s.sh, .slice A s.ns.length cp]) (#[.slice Ac c.length cc, .slice Ak k.length ck])) (fun v _ => 401 - (intOf v).toNat)
              case atStart => exact ⟨0, by omega, rfl, by rw [HI.out]; simp, HE.out, HG.out.congr fun j x _ _ => by
                split
                · rename_i e; subst e; simp [backF]
                · rfl⟩
              case round =>
                clear HE HG HI hgl
                obtain ⟨oil, hoil, rfl, hbi, henv, hG⟩ := hrel
                have HE := Lib.hid henv
                have HG := Lib.hid hG
                have HI := Lib.hid hbi
                clear henv hG hbi
                have cI : wr.cell? ⟨Bi, 0, none⟩ = some (.int .i64 (i : Int)) := by simp [World.cell?, HI.out]
                have cO : wr.cell? ⟨Bo, 0, none⟩ = some (.slice (some ⟨g, 0, none⟩) s.ns.length cap) := by simp [World.cell?, HG.out.var]
                have hgl := HG.out.lts
                by_cases hol : oil < 401
                · have hol' : decide ((oil : Int) < 401) = true := by simp; omega
                  have hx := hix.out wr oil hol
                  have b0 : wr.cell? ⟨Bs, 0, none⟩ = some (.int .i64 s.cap) := by simp [World.cell?, HE.out.st]
                  have b1 : wr.cell? ⟨Bs, 1, none⟩ = some (.int .i64 s.can) := by simp [World.cell?, HE.out.st]
                  have b2 : wr.cell? ⟨Bs, 2, none⟩ = some (.int .i64 s.sl) := by simp [World.cell?, HE.out.st]
                  have b3 : wr.cell? ⟨Bs, 3, none⟩ = some (.int .i64 s.sh) := by simp [World.cell?, HE.out.st]
                  have b4 : wr.cell? ⟨Bs, 4, none⟩ = some (.slice A s.ns.length cp) := by simp [World.cell?, HE.out.st]
                  have b5 : wr.cell? ⟨Bp, 0, none⟩ = some (.slice Ac c.length cc) := by simp [World.cell?, HE.out.pl]
                  have b6 : wr.cell? ⟨Bp, 1, none⟩ = some (.slice Ak k.length ck) := by simp [World.cell?, HE.out.pl]
                  have q0 : (0 : Int) ≤ (oil : Int) := by omega
                  have q1 : (oil : Int) < 401 := by omega
                  have d0 := HG.out.cell (j := i) (by omega) hol
                  have z0 := HG.out.frozen (i * 401 + oil)
                  cases hgo : G i oil with
                  | false =>
                    rw [hgo] at hx
                    have HGO := Lib.hid hgo
                    clear hgo
                    go_wp2_with fail
                    refine wp_region_held_drew (S := fun X => X.cell? ⟨Bo, 0, none⟩ = some (.slice (some ⟨g, 0, none⟩) s.ns.length cap) ∧ X.cell? ⟨Bi, 0, none⟩ = some (.int .i64 (i : Int)) ∧ X.cell? ⟨Bs, 0, none⟩ = some (.int .i64 s.cap) ∧ X.cell? ⟨Bs, 1, none⟩ = some (.int .i64 s.can) ∧ X.cell? ⟨Bs, 2, none⟩ = some (.int .i64 s.sl) ∧ X.cell? ⟨Bs, 3, none⟩ = some (.int .i64 s.sh) ∧ X.cell? ⟨Bs, 4, none⟩ = some (.slice A s.ns.length cp) ∧ X.cell? ⟨Bp, 0, none⟩ = some (.slice Ac c.length cc) ∧ X.cell? ⟨Bp, 1, none⟩ = some (.slice Ak k.length ck)) (by kernel_rfl) (⟨cO, cI, b0, b1, b2, b3, b4, b5, b6⟩) (fun hS0 => ?_)
                    refine tkH 0 ⟨some 92, .load 121 (.tmp 10), 121, "oil.go:62", #[], none⟩ (v := ?_) hS0 ?_ ?_
                    rotate_left
                    · intro X ⟨x0, x1, x2, x3, x4, x5, x6, x7, x8⟩; go_simp; try with_reducible rfl
                    simp only [Act.put, List.setIfInBounds_toArray, List.set_cons_zero, List.set_cons_succ, Array.toArray_toList]
                    refine tkH 1 ⟨some 93, .load 3 (.tmp 17), 3, "oil.go:62", #[], none⟩ (v := ?_) hS0 ?_ ?_
                    rotate_left
                    · intro X ⟨x0, x1, x2, x3, x4, x5, x6, x7, x8⟩; go_simp; try with_reducible rfl
                    simp only [Act.put, List.setIfInBounds_toArray, List.set_cons_zero, List.set_cons_succ, Array.toArray_toList]
                    refine tkH 2 ⟨some 94, .move (.tmp 18), 3, "oil.go:62", #[], none⟩ (v := ?_) hS0 ?_ ?_
                    rotate_left
                    · intro X ⟨x0, x1, x2, x3, x4, x5, x6, x7, x8⟩; go_simp; try with_reducible rfl
                    simp only [Act.put, List.setIfInBounds_toArray, List.set_cons_zero, List.set_cons_succ, Array.toArray_toList]
                    refine tkH 3 ⟨some 95, .move (.tmp 19), 4, "oil.go:62", #[], none⟩ (v := ?_) hS0 ?_ ?_
                    rotate_left
                    · intro X ⟨x0, x1, x2, x3, x4, x5, x6, x7, x8⟩; go_simp; try with_reducible rfl
                    simp only [Act.put, List.setIfInBounds_toArray, List.set_cons_zero, List.set_cons_succ, Array.toArray_toList]
                    refine tkH 4 ⟨some 96, .move (.tmp 95), 4, "oil.go:62", #[⟨3, .data⟩], none⟩ (v := ?_) hS0 ?_ ?_
                    rotate_left
                    · intro X ⟨x0, x1, x2, x3, x4, x5, x6, x7, x8⟩; go_simp; try with_reducible rfl
                    simp only [Act.put, List.setIfInBounds_toArray, List.set_cons_zero, List.set_cons_succ, Array.toArray_toList]
                    refine wpAnyH_take (i := 5) (oi := ⟨some 97, .load 39 (.tmp 3), 39, "oil.go:62", #[⟨4, .guard⟩], some (4, true)⟩) (v := undef) rfl (by kernel_rfl) (by kernel_rfl) (by kernel_rfl) (fun _ _ _ h => h) (Or.inr ⟨by rfl, rfl⟩) hS0 ?_
                    simp only [Act.put, List.setIfInBounds_toArray, List.set_cons_zero, List.set_cons_succ, Array.toArray_toList]
                    refine wpAnyH_take (i := 6) (oi := ⟨some 98, .load 44 (.tmp 4), 44, "oil.go:62", #[⟨4, .guard⟩], some (4, true)⟩) (v := undef) rfl (by kernel_rfl) (by kernel_rfl) (by kernel_rfl) (fun _ _ _ h => h) (Or.inr ⟨by rfl, rfl⟩) hS0 ?_
                    simp only [Act.put, List.setIfInBounds_toArray, List.set_cons_zero, List.set_cons_succ, Array.toArray_toList]
                    refine wpAnyH_take (i := 7) (oi := ⟨some 99, .load 3 (.tmp 17), 3, "oil.go:62", #[⟨4, .guard⟩], some (4, true)⟩) (v := undef) rfl (by kernel_rfl) (by kernel_rfl) (by kernel_rfl) (fun _ _ _ h => h) (Or.inr ⟨by rfl, rfl⟩) hS0 ?_
                    simp only [Act.put, List.setIfInBounds_toArray, List.set_cons_zero, List.set_cons_succ, Array.toArray_toList]
                    refine wpAnyH_take (i := 8) (oi := ⟨some 100, .binOp .add 3 (.tmp 99) (.const (.int .i64 1)) 3, 3, "oil.go:62", #[⟨7, .data⟩, ⟨4, .guard⟩], some (4, true)⟩) (v := undef) rfl (by kernel_rfl) (by kernel_rfl) (by kernel_rfl) (fun _ _ _ h => h) (Or.inr ⟨by rfl, rfl⟩) hS0 ?_
                    simp only [Act.put, List.setIfInBounds_toArray, List.set_cons_zero, List.set_cons_succ, Array.toArray_toList]
                    refine wpAnyH_take (i := 9) (oi := ⟨some 101, .move (.tmp 18), 3, "oil.go:62", #[⟨4, .guard⟩], some (4, true)⟩) (v := undef) rfl (by kernel_rfl) (by kernel_rfl) (by kernel_rfl) (fun _ _ _ h => h) (Or.inr ⟨by rfl, rfl⟩) hS0 ?_
                    simp only [Act.put, List.setIfInBounds_toArray, List.set_cons_zero, List.set_cons_succ, Array.toArray_toList]
                    refine wpAnyH_take (i := 10) (oi := ⟨some 102, .call ⟨.value (.func 103), #[.tmp 97, .tmp 98, .tmp 100, .tmp 101], #[39, 44, 3, 3]⟩, 27, "oil.go:62", #[⟨5, .data⟩, ⟨6, .data⟩, ⟨8, .data⟩, ⟨9, .data⟩, ⟨4, .chain⟩, ⟨4, .guard⟩], some (4, true)⟩) (v := undef) rfl (by kernel_rfl) (by kernel_rfl) (by kernel_rfl) (fun _ _ _ h => h) (Or.inr ⟨by rfl, rfl⟩) hS0 ?_
                    simp only [Act.put, List.setIfInBounds_toArray, List.set_cons_zero, List.set_cons_succ, Array.toArray_toList]
                    refine wpAnyH_take (i := 11) (oi := ⟨some 103, .makeFunc (Fn.func 106) #[] #[.tmp 10, .tmp 17], 108, "oil.go:62", #[⟨4, .guard⟩], some (4, true)⟩) (v := undef) rfl (by kernel_rfl) (by kernel_rfl) (by kernel_rfl) (fun _ _ _ h => h) (Or.inr ⟨by rfl, rfl⟩) hS0 ?_
                    simp only [Act.put, List.setIfInBounds_toArray, List.set_cons_zero, List.set_cons_succ, Array.toArray_toList]
                    refine wpAnyH_take (i := 12) (oi := ⟨some 104, .call ⟨.value (.func 105), #[.tmp 102, .tmp 103], #[27, 108]⟩, 4, "oil.go:62", #[⟨10, .data⟩, ⟨11, .data⟩, ⟨10, .chain⟩, ⟨4, .guard⟩], some (4, true)⟩) (v := undef) rfl (by kernel_rfl) (by kernel_rfl) (by kernel_rfl) (fun _ _ _ h => h) (Or.inr ⟨by rfl, rfl⟩) hS0 ?_
                    simp only [Act.put, List.setIfInBounds_toArray, List.set_cons_zero, List.set_cons_succ, Array.toArray_toList]
                    refine tkH 13 ⟨some 105, .pick (.tmp 96) (.tmp 104) (.const (.bool false)), 4, "oil.go:62", #[⟨4, .data⟩, ⟨12, .data⟩], none⟩ (v := ?_) hS0 ?_ ?_
                    rotate_left
                    · intro X ⟨x0, x1, x2, x3, x4, x5, x6, x7, x8⟩; go_simp; try with_reducible rfl
                    simp only [Act.put, List.setIfInBounds_toArray, List.set_cons_zero, List.set_cons_succ, Array.toArray_toList]
                    refine tkH 14 ⟨some 106, .indexAddr 121 (.tmp 92) (.tmp 93), 0, "oil.go:62", #[⟨0, .data⟩, ⟨1, .data⟩], none⟩ (v := ?_) hS0 ?_ ?_
                    rotate_left
                    · intro X ⟨x0, x1, x2, x3, x4, x5, x6, x7, x8⟩; go_simp; try with_reducible rfl
                    simp only [Act.put, List.setIfInBounds_toArray, List.set_cons_zero, List.set_cons_succ, Array.toArray_toList]
                    refine tkH 15 ⟨some 107, .indexAddr 139 (.tmp 106) (.tmp 94), 0, "oil.go:62", #[⟨14, .data⟩, ⟨2, .data⟩, ⟨0, .phase⟩, ⟨1, .phase⟩, ⟨2, .phase⟩, ⟨3, .phase⟩, ⟨4, .phase⟩, ⟨5, .phase⟩, ⟨6, .phase⟩, ⟨7, .phase⟩, ⟨8, .phase⟩, ⟨9, .phase⟩, ⟨10, .phase⟩, ⟨11, .phase⟩, ⟨12, .phase⟩, ⟨13, .phase⟩], none⟩ (v := ?_) hS0 ?_ ?_
                    rotate_left
                    · intro X ⟨x0, x1, x2, x3, x4, x5, x6, x7, x8⟩; go_simp; try with_reducible rfl
                    simp only [Act.put, List.setIfInBounds_toArray, List.set_cons_zero, List.set_cons_succ, Array.toArray_toList]
                    refine wpAnyH_ready (rs := [16]) (by kernel_rfl) (by simp) (AllReadyH.cons (o := ⟨none, .store 4 (.tmp 107) (.tmp 105), 0, "oil.go:62", #[⟨15, .data⟩, ⟨13, .data⟩, ⟨12, .chain⟩, ⟨0, .phase⟩, ⟨1, .phase⟩, ⟨2, .phase⟩, ⟨3, .phase⟩, ⟨4, .phase⟩, ⟨5, .phase⟩, ⟨6, .phase⟩, ⟨7, .phase⟩, ⟨8, .phase⟩, ⟨9, .phase⟩, ⟨10, .phase⟩, ⟨11, .phase⟩, ⟨12, .phase⟩, ⟨13, .phase⟩], none⟩) rfl (fun K hK => ?_) AllReadyH.nil)
                    go_simp
                    have hset : ∀ B, B ≠ g → (wr.drew.setCell ⟨g, i * 401 + oil, none⟩ (.bool false)).heap[B]? = wr.heap[B]? := fun B hB => Below.heap_setCell _ _ _ _ hB
                    refine hK.out _ _ (cells_of hset (Ne.symm (Nat.ne_of_gt hgl.1)) nio nsg npg ⟨cO, cI, b0, b1, b2, b3, b4, b5, b6⟩) (fun hS1 => ?_)
                    clear hS0 hK K
                    refine wpAnyH_done (by kernel_rfl) ?_ _
                    clear hS1
                    have HE9 := Lib.hid (HE.out.drew.set wlg nsg npg (i * 401 + oil) (.bool false))
                    have HG9 := Lib.hid ((HG.out.keep (Below.refl _ wr).drew).set (i := i) (by omega) hol false)
                    have HI9 := Lib.hid ((hset Bi nio).trans HI.out)
                    have HV9 := Lib.hid (show (G i oil && (nightF s (atL c) (atL k) (i + 1) oil).any fun y => G (i + 1) y.toNat) = false by rw [HGO.out]; rfl)
                    clear hset d0 z0 b0 b1 b2 b3 b4 b5 b6 cI cO hx
                    go_wp2_with fail
                    go_roundw
                    case rel => exact ⟨oil + 1, by omega, by go_num, HI9.out, HE9.out, HG9.out.congr fun j x hj hx => by
                      split
                      · rename_i e; subst e; rw [if_pos rfl, backF_succ, HV9.out]
                      · rfl⟩
                    case measure => simp [intOf]; omega
                  | true =>
                    rw [hgo] at hx
                    have HGO := Lib.hid hgo
                    clear hgo
                    have hn := Lib.hid (night_any s A cp Ac Ak cc ck c k (i + 1) (oil : Int) wr.drew HOK.out (by omega) ⟨by omega, by omega⟩ (HA.out.keep HE.out.below.drew (Nat.le_refl _)) (HC.out.keep HE.out.below.drew (Nat.le_refl _)) (HK.out.keep HE.out.below.drew (Nat.le_refl _)))
                    have hnc : (((i + 1 : Nat)) : Int) = (i : Int) + 1 := by omega
                    rw [hnc] at hn
                    have hwr : IntKind.i64.wrap ((i : Int) + 1) = (i : Int) + 1 := IntWalk.i64_in _ (by omega)
                    clear hnc
                    go_wp2_with fail
                    refine wp_region_held_drew (S := fun X => X.cell? ⟨Bo, 0, none⟩ = some (.slice (some ⟨g, 0, none⟩) s.ns.length cap) ∧ X.cell? ⟨Bi, 0, none⟩ = some (.int .i64 (i : Int)) ∧ X.cell? ⟨Bs, 0, none⟩ = some (.int .i64 s.cap) ∧ X.cell? ⟨Bs, 1, none⟩ = some (.int .i64 s.can) ∧ X.cell? ⟨Bs, 2, none⟩ = some (.int .i64 s.sl) ∧ X.cell? ⟨Bs, 3, none⟩ = some (.int .i64 s.sh) ∧ X.cell? ⟨Bs, 4, none⟩ = some (.slice A s.ns.length cp) ∧ X.cell? ⟨Bp, 0, none⟩ = some (.slice Ac c.length cc) ∧ X.cell? ⟨Bp, 1, none⟩ = some (.slice Ak k.length ck)) (by kernel_rfl) (⟨cO, cI, b0, b1, b2, b3, b4, b5, b6⟩) (fun hS0 => ?_)
                    refine tkH 0 ⟨some 92, .load 121 (.tmp 10), 121, "oil.go:62", #[], none⟩ (v := ?_) hS0 ?_ ?_
                    rotate_left
                    · intro X ⟨x0, x1, x2, x3, x4, x5, x6, x7, x8⟩; go_simp; try with_reducible rfl
                    simp only [Act.put, List.setIfInBounds_toArray, List.set_cons_zero, List.set_cons_succ, Array.toArray_toList]
                    refine tkH 1 ⟨some 93, .load 3 (.tmp 17), 3, "oil.go:62", #[], none⟩ (v := ?_) hS0 ?_ ?_
                    rotate_left
                    · intro X ⟨x0, x1, x2, x3, x4, x5, x6, x7, x8⟩; go_simp; try with_reducible rfl
                    simp only [Act.put, List.setIfInBounds_toArray, List.set_cons_zero, List.set_cons_succ, Array.toArray_toList]
                    refine tkH 2 ⟨some 94, .move (.tmp 18), 3, "oil.go:62", #[], none⟩ (v := ?_) hS0 ?_ ?_
                    rotate_left
                    · intro X ⟨x0, x1, x2, x3, x4, x5, x6, x7, x8⟩; go_simp; try with_reducible rfl
                    simp only [Act.put, List.setIfInBounds_toArray, List.set_cons_zero, List.set_cons_succ, Array.toArray_toList]
                    refine tkH 3 ⟨some 95, .move (.tmp 19), 4, "oil.go:62", #[], none⟩ (v := ?_) hS0 ?_ ?_
                    rotate_left
                    · intro X ⟨x0, x1, x2, x3, x4, x5, x6, x7, x8⟩; go_simp; try with_reducible rfl
                    simp only [Act.put, List.setIfInBounds_toArray, List.set_cons_zero, List.set_cons_succ, Array.toArray_toList]
                    refine tkH 4 ⟨some 96, .move (.tmp 95), 4, "oil.go:62", #[⟨3, .data⟩], none⟩ (v := ?_) hS0 ?_ ?_
                    rotate_left
                    · intro X ⟨x0, x1, x2, x3, x4, x5, x6, x7, x8⟩; go_simp; try with_reducible rfl
                    simp only [Act.put, List.setIfInBounds_toArray, List.set_cons_zero, List.set_cons_succ, Array.toArray_toList]
                    refine tkH 5 ⟨some 97, .load 39 (.tmp 3), 39, "oil.go:62", #[⟨4, .guard⟩], some (4, true)⟩ (v := ?_) hS0 ?_ ?_
                    rotate_left
                    · intro X ⟨x0, x1, x2, x3, x4, x5, x6, x7, x8⟩; go_simp; try with_reducible rfl
                    simp only [Act.put, List.setIfInBounds_toArray, List.set_cons_zero, List.set_cons_succ, Array.toArray_toList]
                    refine tkH 6 ⟨some 98, .load 44 (.tmp 4), 44, "oil.go:62", #[⟨4, .guard⟩], some (4, true)⟩ (v := ?_) hS0 ?_ ?_
                    rotate_left
                    · intro X ⟨x0, x1, x2, x3, x4, x5, x6, x7, x8⟩; go_simp; try with_reducible rfl
                    simp only [Act.put, List.setIfInBounds_toArray, List.set_cons_zero, List.set_cons_succ, Array.toArray_toList]
                    refine tkH 7 ⟨some 99, .load 3 (.tmp 17), 3, "oil.go:62", #[⟨4, .guard⟩], some (4, true)⟩ (v := ?_) hS0 ?_ ?_
                    rotate_left
                    · intro X ⟨x0, x1, x2, x3, x4, x5, x6, x7, x8⟩; go_simp; try with_reducible rfl
                    simp only [Act.put, List.setIfInBounds_toArray, List.set_cons_zero, List.set_cons_succ, Array.toArray_toList]
                    refine tkH 8 ⟨some 100, .binOp .add 3 (.tmp 99) (.const (.int .i64 1)) 3, 3, "oil.go:62", #[⟨7, .data⟩, ⟨4, .guard⟩], some (4, true)⟩ (v := ?_) hS0 ?_ ?_
                    rotate_left
                    · intro X ⟨x0, x1, x2, x3, x4, x5, x6, x7, x8⟩; go_simp; try with_reducible rfl
                    simp only [Act.put, List.setIfInBounds_toArray, List.set_cons_zero, List.set_cons_succ, Array.toArray_toList]
                    refine tkH 9 ⟨some 101, .move (.tmp 18), 3, "oil.go:62", #[⟨4, .guard⟩], some (4, true)⟩ (v := ?_) hS0 ?_ ?_
                    rotate_left
                    · intro X ⟨x0, x1, x2, x3, x4, x5, x6, x7, x8⟩; go_simp; try with_reducible rfl
                    simp only [Act.put, List.setIfInBounds_toArray, List.set_cons_zero, List.set_cons_succ, Array.toArray_toList]
                    refine tkH 11 ⟨some 103, .makeFunc (Fn.func 106) #[] #[.tmp 10, .tmp 17], 108, "oil.go:62", #[⟨4, .guard⟩], some (4, true)⟩ (v := ?_) hS0 ?_ ?_
                    rotate_left
                    · intro X ⟨x0, x1, x2, x3, x4, x5, x6, x7, x8⟩; go_simp; try with_reducible rfl
                    simp only [Act.put, List.setIfInBounds_toArray, List.set_cons_zero, List.set_cons_succ, Array.toArray_toList]
                    refine tkH 14 ⟨some 106, .indexAddr 121 (.tmp 92) (.tmp 93), 0, "oil.go:62", #[⟨0, .data⟩, ⟨1, .data⟩], none⟩ (v := ?_) hS0 ?_ ?_
                    rotate_left
                    · intro X ⟨x0, x1, x2, x3, x4, x5, x6, x7, x8⟩; go_simp; try with_reducible rfl
                    simp only [Act.put, List.setIfInBounds_toArray, List.set_cons_zero, List.set_cons_succ, Array.toArray_toList]
                    refine wpAnyH_ready (rs := [10]) (by kernel_rfl) (by simp) (AllReadyH.cons (o := ⟨some 102, .call ⟨.value (.func 103), #[.tmp 97, .tmp 98, .tmp 100, .tmp 101], #[39, 44, 3, 3]⟩, 27, "oil.go:62", #[⟨5, .data⟩, ⟨6, .data⟩, ⟨8, .data⟩, ⟨9, .data⟩, ⟨4, .chain⟩, ⟨4, .guard⟩], some (4, true)⟩) rfl (fun K hK => ?_) AllReadyH.nil)
                    go_simp
                    clear hwr
                    with_reducible refine hn.out.mono ?_
                    rintro e w9 ⟨lv, rfl, hown, hb9⟩
                    have hb9' : Below wr.heap.size wr w9 := (Below.refl _ wr).drew.trans hb9
                    have hia := IntsAt.of_own hown
                    change IntsAt w9 lv (nightF s (atL c) (atL k) (i + 1) oil) at hia
                    obtain ⟨lA, lc, rfl⟩ := hia.slice
                    have hbd : ∀ x, x ∈ nightF s (atL c) (atL k) (i + 1) oil → 0 ≤ x ∧ x ≤ 400 := fun x hx => nightF_bd HO.out HPL.out (by omega) (by omega) hx
                    have hll : (nightF s (atL c) (atL k) (i + 1) oil).length = burnsN s (i + 1) := nightL_len _ _ _ _ _ _
                    have hl11 : (nightF s (atL c) (atL k) (i + 1) oil).length ≤ 11 := by
                      have := HO.out.nt (i + 1) (by omega)
                      unfold burnsN at hll
                      omega
                    have e0 := cell_later hb9' cO
                    have e1 := cell_later hb9' cI
                    have HG2 := Lib.hid (HG.out.keep hb9')
                    have HE2 := Lib.hid (HE.out.keep hb9')
                    have HI2 := Lib.hid ((hb9'.block _ (Array.getElem?_eq_some_iff.1 HI.out).1).trans HI.out)
                    have d1 := cell_later hb9' d0
                    have z1 := HG2.out.frozen (i * 401 + oil)
                    have hcon := Lib.hid (inRowAny_any Bo Bi g s.ns.length cap i (G (i + 1)) lA lc _ w9 (by omega) (by omega) (by omega : (nightF s (atL c) (atL k) (i + 1) oil).length ≤ 1000) hbd hia e0 e1 (fun y hy => by
                      have := HG2.out.cell (j := i + 1) (x := y) (by omega) hy
                      rw [if_neg (show ¬ i + 1 = i by omega)] at this
                      exact this))
                    have hS9 := Lib.hid (keepS9 hb9' ⟨cO, cI, b0, b1, b2, b3, b4, b5, b6⟩)
                    obtain ⟨vb, hvb⟩ : ∃ vb, ((nightF s (atL c) (atL k) (i + 1) oil).any fun y => G (i + 1) y.toNat) = vb := ⟨_, rfl⟩
                    rw [hvb] at hcon
                    have HVB := Lib.hid hvb
                    clear hown hb9 hb9' hia hbd hll hl11 hvb cO cI b0 b1 b2 b3 b4 b5 b6 d0 z0 hx HG HE HI hn
                    go_wp2_with fail
                    refine hK.out _ _ (hS9.out) (fun hS1 => ?_)
                    clear hS0 hK K
                    refine wpAnyH_ready (rs := [12]) (by kernel_rfl) (by simp) (AllReadyH.cons (o := ⟨some 104, .call ⟨.value (.func 105), #[.tmp 102, .tmp 103], #[27, 108]⟩, 4, "oil.go:62", #[⟨10, .data⟩, ⟨11, .data⟩, ⟨10, .chain⟩, ⟨4, .guard⟩], some (4, true)⟩) rfl (fun K hK => ?_) AllReadyH.nil)
                    go_simp
                    with_reducible refine hcon.out.mono ?_
                    rintro e w10 ⟨rfl, rfl⟩
                    go_wp2_with fail
                    refine hK.out _ _ (hS9.out) (fun hS2 => ?_)
                    clear hS1 hK K
                    refine tkH 13 ⟨some 105, .pick (.tmp 96) (.tmp 104) (.const (.bool false)), 4, "oil.go:62", #[⟨4, .data⟩, ⟨12, .data⟩], none⟩ (v := ?_) hS2 ?_ ?_
                    rotate_left
                    · intro X ⟨x0, x1, x2, x3, x4, x5, x6, x7, x8⟩; go_simp; try with_reducible rfl
                    simp only [Act.put, List.setIfInBounds_toArray, List.set_cons_zero, List.set_cons_succ, Array.toArray_toList]
                    refine tkH 15 ⟨some 107, .indexAddr 139 (.tmp 106) (.tmp 94), 0, "oil.go:62", #[⟨14, .data⟩, ⟨2, .data⟩, ⟨0, .phase⟩, ⟨1, .phase⟩, ⟨2, .phase⟩, ⟨3, .phase⟩, ⟨4, .phase⟩, ⟨5, .phase⟩, ⟨6, .phase⟩, ⟨7, .phase⟩, ⟨8, .phase⟩, ⟨9, .phase⟩, ⟨10, .phase⟩, ⟨11, .phase⟩, ⟨12, .phase⟩, ⟨13, .phase⟩], none⟩ (v := ?_) hS2 ?_ ?_
                    rotate_left
                    · intro X ⟨x0, x1, x2, x3, x4, x5, x6, x7, x8⟩; go_simp; try with_reducible rfl
                    simp only [Act.put, List.setIfInBounds_toArray, List.set_cons_zero, List.set_cons_succ, Array.toArray_toList]
                    refine wpAnyH_ready (rs := [16]) (by kernel_rfl) (by simp) (AllReadyH.cons (o := ⟨none, .store 4 (.tmp 107) (.tmp 105), 0, "oil.go:62", #[⟨15, .data⟩, ⟨13, .data⟩, ⟨12, .chain⟩, ⟨0, .phase⟩, ⟨1, .phase⟩, ⟨2, .phase⟩, ⟨3, .phase⟩, ⟨4, .phase⟩, ⟨5, .phase⟩, ⟨6, .phase⟩, ⟨7, .phase⟩, ⟨8, .phase⟩, ⟨9, .phase⟩, ⟨10, .phase⟩, ⟨11, .phase⟩, ⟨12, .phase⟩, ⟨13, .phase⟩], none⟩) rfl (fun K hK => ?_) AllReadyH.nil)
                    go_simp
                    have hset : ∀ B, B ≠ g → (w9.setCell ⟨g, i * 401 + oil, none⟩ (.bool vb)).heap[B]? = w9.heap[B]? := fun B hB => Below.heap_setCell _ _ _ _ hB
                    refine hK.out _ _ (cells_of hset (Ne.symm (Nat.ne_of_gt hgl.1)) nio nsg npg hS9.out) (fun hS3 => ?_)
                    clear hS2 hK K
                    refine wpAnyH_done (by kernel_rfl) ?_ _
                    clear hS3
                    have HE9 := Lib.hid (HE2.out.set wlg nsg npg (i * 401 + oil) (.bool vb))
                    have HG9 := Lib.hid (HG2.out.set (i := i) (by omega) hol vb)
                    have HI9 := Lib.hid ((hset Bi nio).trans HI2.out)
                    have HV9 := Lib.hid (show (G i oil && (nightF s (atL c) (atL k) (i + 1) oil).any fun y => G (i + 1) y.toNat) = vb by rw [HGO.out, HVB.out]; rfl)
                    clear hset d1 z1 e0 e1 HE2 HG2 HI2 hcon hS9
                    go_wp2_with fail
                    go_roundw
                    case rel => exact ⟨oil + 1, by omega, by go_num, HI9.out, HE9.out, HG9.out.congr fun j x hj hx => by
                      split
                      · rename_i e; subst e; rw [if_pos rfl, backF_succ, HV9.out]
                      · rfl⟩
                    case measure => simp [intOf]; omega
                · have hol' : decide ((oil : Int) < 401) = false := by simp; omega
                  obtain rfl : oil = 401 := by omega
                  have zI : wr.frozen? ⟨Bi, 0, none⟩ = false := by simp [World.frozen?, HI.out]
                  have hfb := fb_back HO.out HPL.out (j := i) (by omega) (HF1.out i (Nat.lt_succ_self i)) (HF2.out (i + 1) (Nat.le_refl _) (by omega))
                  have hb9 : Below wr.heap.size wr (wr.alloc (.cells #[.int .i64 ((i : Int) - 1)] 3)) := (Below.refl _ _).alloc (Nat.le_refl _) _
                  have HFB := Lib.hid hfb
                  have HB9 := Lib.hid hb9
                  have hnew := Lib.hid (Go.heap_alloc_new wr (.cells #[.int .i64 ((i : Int) - 1)] 3))
                  clear hfb hb9 cO
                  go_wp2_with fail
                  go_roundw
                  case rel =>
                    exact ⟨i, wr.heap.size, by omega, rfl, by omega, hnew.out, HE.out.keep HB9.out, _, HG.out.keep HB9.out, fun j hj => by
                      rw [if_neg (show ¬ j = i by omega)]; exact HF1.out j (by omega), fun j h1 h2 => by
                      by_cases e : j = i
                      · subst e
                        intro x hx
                        rw [if_pos rfl, ← HFB.out x hx]
                        unfold backF
                        rw [if_pos hx]
                      · rw [if_neg e]; exact HF2.out j (by omega) h2⟩
                  case measure =>
                    have m1 : w8.cell? ⟨Bi, 0, none⟩ = some (.int .i64 (i : Int)) := HM8.out
                    rw [lvMeas_at m1]
                    have m2 := lvMeas_at (Boxed.new wr 3 (.int .i64 ((i : Int) - 1))).cell
                    rw [m2]; omega

end Go.Proofs.Ytefhdcecbmgljaa

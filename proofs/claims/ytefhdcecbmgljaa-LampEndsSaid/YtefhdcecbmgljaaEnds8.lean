/-
  LampEnds: the walk.
-/
import Derived.Test.YtefhdcecbmgljaaDipped
import Derived.Test.YtefhdcecbmgljaaRefG
import Derived.Test.YtefhdcecbmgljaaRefH
import Derived.Deep.CutBlock
set_option linter.all false
namespace Go.Proofs.Ytefhdcecbmgljaa
open Go.RowKit Go.WalkArith


def DMore (dips : List Dp) (d : Dp) (w1 : World) (x : Value) (W : World) : Prop := ∃ Ax cx, x = .slice Ax (dips ++ [d]).length cx ∧ DpsAt W Ax (dips ++ [d]) ∧ Below w1.heap.size w1 W
theorem DMore.intro {dips : List Dp} {d : Dp} {w1 W : World} {g cap base : Nat} (h : W.ownsRow base 85 3 (.slice (some ⟨g, 0, none⟩) (dips.length + 1) cap) (dips.length + 1) (flatD (dips ++ [d]))) (hb : Below w1.heap.size w1 W) : DMore dips d w1 (.slice (some ⟨g, 0, none⟩) (dips.length + 1) cap) W := by
  obtain ⟨Ax, cx, he, hd, _⟩ := DpsAt.of_own85 h
  exact ⟨Ax, cx, he, hd, hb⟩

theorem wpList_app_dips {w : World} {ops : Array Oper} {rest : List Oper} {o : Oper} {a : Act} {Q : Exit → Act → World → Prop} (hgd : o.guard = none) (s x : Operand)
    (ho : o.op = .call { callee := .builtin .append, args := #[s, x], argTypes := #[55, 55] }) (base : Nat) (v : Value) (hs : a.eval s = v) (hown : w.ownsRow base 85 3 v 0 [])
    (Ad : Option Addr) (cd : Nat) (dips : List Dp) (hx : a.eval x = .slice Ad dips.length cd) (hd : DpsAt w Ad dips) (hnil : dips = [] → Ad = none ∧ cd = 0) (hl : dips.length ≤ 1000) (hbase : base ≤ w.heap.size)
    (h : ∀ v' w', w'.ownsRow base 85 3 v' dips.length (flatD dips) → w.grownBy w' v.ownBlock → w.heap.size ≤ w'.heap.size → wpList Try.prog ops Q rest (a.put o.dst v') w') : wpList Try.prog ops Q (o :: rest) a w :=
  wpList_plain hgd fun K hK => by
    have := step_app_dips (w := w) (ops := ops) (o := o) (a := a) (K := K) (Q := Q) (E := True) hgd s x ho base v hs hown Ad cd dips hx hd hnil hl hbase fun v' w' h1 h2 h3 => hK _ _ (h v' w' h1 h2 h3)
    rwa [if_pos (by simp [Region.wanted, hgd])] at this
def four (a b c d : Int) : Nat → Int
  | 0 => a
  | 1 => b
  | 2 => c
  | _ => d
theorem part_four (a b c d : Int) {k : Nat} (hk : k < 4) (w : World) : (part 3 #[.int .i64 a, .int .i64 b, .int .i64 c, .int .i64 d] (k * 1)).run Try.prog w = .ok (.int .i64 (four a b c d k)) w := by
  have hsz : (sizeOf 3).run Try.prog w = .ok 1 w := by kernel_rfl
  have hag : (isAgg 3).run Try.prog w = .ok false w := by kernel_rfl
  rw [Nat.mul_one]
  have h4 : k = 0 ∨ k = 1 ∨ k = 2 ∨ k = 3 := by omega
  rcases h4 with rfl | rfl | rfl | rfl <;> simp [part, hsz, hag, Result.andThen, four]
theorem run_index_four (a b c d : Int) {k : Nat} (hk : k < 4) (w : World) :
    (Instr.index 83 (.agg #[.int .i64 a, .int .i64 b, .int .i64 c, .int .i64 d]) (.int .i64 k)).run Try.prog w = .ok (.int .i64 (four a b c d k)) w := by
  have hu : Try.prog.underlying 83 = some (.array 4 3) := Try.underlying83
  have hsz : (sizeOf 3).run Try.prog w = .ok 1 w := by kernel_rfl
  have hp := part_four a b c d hk w
  rw [Nat.mul_one] at hp
  have h1 : (k : Int) < 4 := by omega
  simp [Instr.index, asIntOf, run_underlying hu, hsz, Result.andThen, hp, h1]
  intro h2; omega
/-- A world that came of another. -/
def Since (w0 W : World) : Prop := Below w0.heap.size w0 W
theorem Since.keep {w0 W W' : World} {B : Nat} (h : Since w0 W) (hb : Below B W W') (hB : W.heap.size ≤ B) : Since w0 W' := Below.trans h (hb.mono (Nat.le_trans h.size hB))
theorem Since.drew {w0 W : World} (h : Since w0 W) : Since w0 W.drew := Below.drew h
/-- The number that is tried. -/
def EnN (s : St) (c k : Nat → Int) (dips : List Dp) (q j : Nat) (w1 : World) (x : Value) (W : World) : Prop :=
  ∃ n : Int, x = .int .i64 n ∧ -1 ≤ n ∧ n ≤ 401 ∧ ((j < 2 ∧ 0 ≤ n ∧ n ≤ 400 ∧ Cons s c k (dips ++ [⟨q, n, n⟩])) ∨ (2 ≤ j ∧ ¬ Cons s c k (dips ++ [⟨q, n, n⟩]))) ∧ Below w1.heap.size w1 W
def EnRel (w0 : World) (i : Value) (wr : World) : Prop := ∃ j : Nat, j ≤ 4 ∧ i = .int .i64 j ∧ Below w0.heap.size w0 wr
theorem one_valid {s : St} {left : List Int} {bits n : Int} {dips : List Dp} {c k : List Int} {q : Nat} (h : DipOk s left bits dips) (hp : planL s c k = 0) (hl : dips.length ≤ 4) (hq : q < s.ns.length) (h0 : 0 ≤ n) (h1 : n ≤ 400) : dippedL s c k (dips ++ [⟨q, n, n⟩]) = 0 :=
  dippedL_of hp (by simp; omega) fun d hd => by
    rcases List.mem_append.1 hd with hd | hd
    · exact (h d hd).1
    · rw [List.mem_singleton.1 hd]
      unfold dipB
      simp only [Bool.and_eq_true, inB_true, decide_eq_true_eq]
      omega

set_option maxRecDepth 100000 in
set_option maxHeartbeats 16000000 in
theorem ends_walk (s : St) (A : Option Addr) (cp : Nat) (Ac Ak : Option Addr) (cc ck : Nat) (c k : List Int) (Aw : Option Addr) (cw : Nat) (ws : List Int) (many which : Int) (w : World) (hA : NtsAt w A s.ns) (hc : IntsAt w (.slice Ac c.length cc) c) (hk : IntsAt w (.slice Ak k.length ck) k) (hw : WordsAt w (.slice Aw ws.length cw) ws) (hwn : ws.length ≤ 9223372036854775807) (um0 : 0 ≤ many) (um1 : many ≤ 255) (uw0 : 0 ≤ which) (uw1 : which ≤ 255) (n1 : NilOk Ac cc) (n2 : NilOk Ak ck) :
    Calls Try.prog 8 #[.agg #[.int .i64 s.cap, .int .i64 s.can, .int .i64 s.sl, .int .i64 s.sh, .slice A s.ns.length cp], .agg #[.slice Ac c.length cc, .slice Ak k.length ck], .slice Aw ws.length cw, .int .u8 many, .int .u8 which] w fun e w' => e = .returned (.bool true) ∧ Below w.heap.size w w' := by
  have HA := Lib.hid hA
  have HC := Lib.hid hc
  have HK := Lib.hid hk
  have HW := Lib.hid hw
  clear hA hc hk hw
  have hB0 : Below w.heap.size w ((w.alloc (.cells #[.int .i64 s.cap, .int .i64 s.can, .int .i64 s.sl, .int .i64 s.sh, .slice A s.ns.length cp] 26)).alloc (.cells #[.slice Ac c.length cc, .slice Ak k.length ck] 29)) := ((Below.refl _ _).alloc (Nat.le_refl _) _).alloc (by simp) _
  have hn0 : ((w.alloc (.cells #[.int .i64 s.cap, .int .i64 s.can, .int .i64 s.sl, .int .i64 s.sh, .slice A s.ns.length cp] 26)).alloc (.cells #[.slice Ac c.length cc, .slice Ak k.length ck] 29)).heap[w.heap.size]? = some (.cells #[.int .i64 s.cap, .int .i64 s.can, .int .i64 s.sl, .int .i64 s.sh, .slice A s.ns.length cp] 26 (0, 0)) := (Below.heap_alloc _ _ _ (by simp <;> omega)).trans (heap_new_at _ _ _ rfl)
  have hn1 : ((w.alloc (.cells #[.int .i64 s.cap, .int .i64 s.can, .int .i64 s.sl, .int .i64 s.sh, .slice A s.ns.length cp] 26)).alloc (.cells #[.slice Ac c.length cc, .slice Ak k.length ck] 29)).heap[w.heap.size + 1]? = some (.cells #[.slice Ac c.length cc, .slice Ak k.length ck] 29 (0, 0)) := heap_new_at _ _ _ (by simp)
  have HB1 := Lib.hid hB0
  have NBs1 := Lib.hid hn0
  have NBp1 := Lib.hid hn1
  clear hB0 hn0 hn1
  go_enter Try.func8, Try.ntmps8
  go_wp2_with fail
  generalize ((w.alloc (.cells #[.int .i64 s.cap, .int .i64 s.can, .int .i64 s.sl, .int .i64 s.sh, .slice A s.ns.length cp] 26)).alloc (.cells #[.slice Ac c.length cc, .slice Ak k.length ck] 29)) = w1 at HB1 NBs1 NBp1 ⊢
  obtain ⟨Bp, hBp⟩ : ∃ Bp, w.heap.size + 1 = Bp := ⟨_, rfl⟩
  obtain ⟨Bs, hBs⟩ : ∃ Bs, w.heap.size = Bs := ⟨_, rfl⟩
  have oBp : w.heap.size ≤ Bp := by omega
  have oBsBp : Bs < Bp := by omega
  have oBs : w.heap.size ≤ Bs := by omega
  rw [hBp] at NBp1 ⊢
  rw [hBs] at NBs1 ⊢
  clear hBs hBp
  obtain ⟨cBs0_1, cBs1_1, cBs2_1, cBs3_1, cBs4_1⟩ := cells5 NBs1.out
  obtain ⟨cBp0_1, cBp1_1⟩ := cells2 NBp1.out
  have hrd := Lib.hid (ready_any s A cp Ac Ak cc ck c k w1 (HA.out.keep HB1.out (Nat.le_refl _)) (HC.out.keep HB1.out (Nat.le_refl _)) (HK.out.keep HB1.out (Nat.le_refl _)))
  cases hR : readyB s c k with
  | false =>
    rw [hR] at hrd
    clear hR
    go_wp2_with fail
    refine (hrd.out).mono ?_
    rintro e w2 ⟨rfl, hb⟩
    have HB2 := Lib.hid ((HB1.out).trans (hb.mono (HB1.out).size))
    have NBs2 := Lib.hid ((hb.block Bs (Array.getElem?_eq_some_iff.1 NBs1.out).1).trans NBs1.out)
    have NBp2 := Lib.hid ((hb.block Bp (Array.getElem?_eq_some_iff.1 NBp1.out).1).trans NBp1.out)
    clear HB1 NBs1 NBp1 cBs0_1 cBs1_1 cBs2_1 cBs3_1 cBs4_1 cBp0_1 cBp1_1  hb hrd
    obtain ⟨cBs0_2, cBs1_2, cBs2_2, cBs3_2, cBs4_2⟩ := cells5 NBs2.out
    obtain ⟨cBp0_2, cBp1_2⟩ := cells2 NBp2.out
    go_wp2_with fail
    refine (awake_any _).mono ?_
    rintro e w3 ⟨rfl, hb⟩
    have HB3 := Lib.hid ((HB2.out).trans (hb.mono (HB2.out).size))
    have NBs3 := Lib.hid ((hb.block Bs (Array.getElem?_eq_some_iff.1 NBs2.out).1).trans NBs2.out)
    have NBp3 := Lib.hid ((hb.block Bp (Array.getElem?_eq_some_iff.1 NBp2.out).1).trans NBp2.out)
    clear HB2 NBs2 NBp2 cBs0_2 cBs1_2 cBs2_2 cBs3_2 cBs4_2 cBp0_2 cBp1_2  hb 
    obtain ⟨cBs0_3, cBs1_3, cBs2_3, cBs3_3, cBs4_3⟩ := cells5 NBs3.out
    obtain ⟨cBp0_3, cBp1_3⟩ := cells2 NBp3.out
    go_wp2_with fail
    go_ret
    exact ⟨rfl, HB3.out⟩
  | true =>
    rw [hR] at hrd
    have h0 := readyB_true hR
    clear hR
    go_wp2_with fail
    refine (hrd.out).mono ?_
    rintro e w2 ⟨rfl, hb⟩
    have HB2 := Lib.hid ((HB1.out).trans (hb.mono (HB1.out).size))
    have NBs2 := Lib.hid ((hb.block Bs (Array.getElem?_eq_some_iff.1 NBs1.out).1).trans NBs1.out)
    have NBp2 := Lib.hid ((hb.block Bp (Array.getElem?_eq_some_iff.1 NBp1.out).1).trans NBp1.out)
    clear HB1 NBs1 NBp1 cBs0_1 cBs1_1 cBs2_1 cBs3_1 cBs4_1 cBp0_1 cBp1_1  hb hrd
    obtain ⟨cBs0_2, cBs1_2, cBs2_2, cBs3_2, cBs4_2⟩ := cells5 NBs2.out
    obtain ⟨cBp0_2, cBp1_2⟩ := cells2 NBp2.out
    obtain ⟨l6, lc, lk⟩ := plan_lens s c k h0
    obtain ⟨hOK, -, -, hPL⟩ := planL_zero.1 h0
    have hpos := hOK.pos
    have H0 := Lib.hid h0
    have HOK := Lib.hid hOK
    have HPL := Lib.hid hPL
    have c9 : c.length ≤ 1000000 := by omega
    have k9 : k.length ≤ 1000000 := by omega
    have n9 : s.ns.length ≤ 1000000 := by omega
    have HLC := Lib.hid lc
    have HLK := Lib.hid lk
    clear h0 hOK hPL lc lk
    go_wp2_with fail
    go_region_held3 (fun X => X.cell? ⟨Bs, 0, none⟩ = some (.int .i64 s.cap) ∧ X.cell? ⟨Bs, 1, none⟩ = some (.int .i64 s.can) ∧ X.cell? ⟨Bs, 2, none⟩ = some (.int .i64 s.sl) ∧ X.cell? ⟨Bs, 3, none⟩ = some (.int .i64 s.sh) ∧ X.cell? ⟨Bs, 4, none⟩ = some (.slice A s.ns.length cp) ∧ X.cell? ⟨Bp, 0, none⟩ = some (.slice Ac c.length cc) ∧ X.cell? ⟨Bp, 1, none⟩ = some (.slice Ak k.length ck))
      (first | go_keep | exact ⟨(cell_later hb0 cBs0_2), (cell_later hb0 cBs1_2), (cell_later hb0 cBs2_2), (cell_later hb0 cBs3_2), (cell_later hb0 cBs4_2), (cell_later hb0 cBp0_2), (cell_later hb0 cBp1_2)⟩ | exact ⟨(cell_later hb1 (cell_later hb0 cBs0_2)), (cell_later hb1 (cell_later hb0 cBs1_2)), (cell_later hb1 (cell_later hb0 cBs2_2)), (cell_later hb1 (cell_later hb0 cBs3_2)), (cell_later hb1 (cell_later hb0 cBs4_2)), (cell_later hb1 (cell_later hb0 cBp0_2)), (cell_later hb1 (cell_later hb0 cBp1_2))⟩)
      (first | (go_at_call 43; refine (Picked_any s A cp (.slice Aw ws.length cw) ws w2.drew HOK.out (HA.out.keep HB2.out.drew (Nat.le_refl _)) (HW.out.keep HB2.out.drew (Nat.le_refl _)) hwn).mono ?_; rintro e w2_0 ⟨t, Ab, cb, bs, rfl, htb, hbs, hbn, hb0⟩; have hB0 := HB2.out.drew.trans (hb0.mono HB2.out.drew.size)) | (go_at_call 44; refine (dipped_by s A cp Ac Ak cc ck c k t Ab cb bs (.slice Aw ws.length cw) ws many 0 w2_0 H0.out htb (HA.out.keep hB0 (Nat.le_refl _)) (HC.out.keep hB0 (Nat.le_refl _)) (HK.out.keep hB0 (Nat.le_refl _)) hbs (HW.out.keep hB0 (Nat.le_refl _)) hwn (And.intro um0 um1) (And.intro (Int.le_refl 0) (by omega))).mono ?_; rintro e w3 ⟨Ad, cd, dips, rfl, hda, hdn, hd4, hdo, hb1⟩; have hB1 := hB0.trans (hb1.mono hB0.size)))
    have hbR : Below w2.drew.heap.size w2.drew w3 := ((hb0).trans (hb1.mono (hb0).size))
    have HB3 := Lib.hid ((HB2.out.drew).trans (hbR.mono (HB2.out.drew).size))
    have NBs3 := Lib.hid ((hbR.block Bs (Array.getElem?_eq_some_iff.1 NBs2.out).1).trans NBs2.out)
    have NBp3 := Lib.hid ((hbR.block Bp (Array.getElem?_eq_some_iff.1 NBp2.out).1).trans NBp2.out)
    have FD3 := Lib.hid hda
    clear HB2 NBs2 NBp2 cBs0_2 cBs1_2 cBs2_2 cBs3_2 cBs4_2 cBp0_2 cBp1_2 hda hbR hb0 hB0 hb1 hB1 hbs hbn
    obtain ⟨cBs0_3, cBs1_3, cBs2_3, cBs3_3, cBs4_3⟩ := cells5 NBs3.out
    obtain ⟨cBp0_3, cBp1_3⟩ := cells2 NBp3.out
    have HTB := Lib.hid htb
    have HDO := Lib.hid hdo
    have HDN := Lib.hid hdn
    clear htb hdo hdn
    have htr := truthB_true.1 HTB.out
    have hag := HDO.out.ag
    have hcons : Cons s (atL c) (atL k) dips := ⟨t, atL bs, htr.2, hag⟩
    have HV0 := Lib.hid (HDO.out.valid H0.out hd4)
    have HCO := Lib.hid hcons
    have d9 : dips.length ≤ 1000000 := by omega
    have ho1 := Lib.hid (fun A2 cp2 Ac2 Ak2 cc2 ck2 Ax cx W x1 x2 x3 x4 => oil_yes s A2 cp2 Ac2 Ak2 cc2 ck2 c k Ax cx dips W x1 x2 x3 x4 HV0.out HCO.out)
    clear htr hag hcons
    go_wp2_with fail
    go_region_held3 (fun X => X.cell? ⟨Bs, 0, none⟩ = some (.int .i64 s.cap) ∧ X.cell? ⟨Bs, 1, none⟩ = some (.int .i64 s.can) ∧ X.cell? ⟨Bs, 2, none⟩ = some (.int .i64 s.sl) ∧ X.cell? ⟨Bs, 3, none⟩ = some (.int .i64 s.sh) ∧ X.cell? ⟨Bs, 4, none⟩ = some (.slice A s.ns.length cp) ∧ X.cell? ⟨Bp, 0, none⟩ = some (.slice Ac c.length cc) ∧ X.cell? ⟨Bp, 1, none⟩ = some (.slice Ak k.length ck))
      (first | go_keep | exact ⟨(cell_later hb0 cBs0_3), (cell_later hb0 cBs1_3), (cell_later hb0 cBs2_3), (cell_later hb0 cBs3_3), (cell_later hb0 cBs4_3), (cell_later hb0 cBp0_3), (cell_later hb0 cBp1_3)⟩ | exact ⟨(cell_later hb1 (cell_later hb0 cBs0_3)), (cell_later hb1 (cell_later hb0 cBs1_3)), (cell_later hb1 (cell_later hb0 cBs2_3)), (cell_later hb1 (cell_later hb0 cBs3_3)), (cell_later hb1 (cell_later hb0 cBs4_3)), (cell_later hb1 (cell_later hb0 cBp0_3)), (cell_later hb1 (cell_later hb0 cBp1_3))⟩ | exact ⟨(cell_later hb2 (cell_later hb1 (cell_later hb0 cBs0_3))), (cell_later hb2 (cell_later hb1 (cell_later hb0 cBs1_3))), (cell_later hb2 (cell_later hb1 (cell_later hb0 cBs2_3))), (cell_later hb2 (cell_later hb1 (cell_later hb0 cBs3_3))), (cell_later hb2 (cell_later hb1 (cell_later hb0 cBs4_3))), (cell_later hb2 (cell_later hb1 (cell_later hb0 cBp0_3))), (cell_later hb2 (cell_later hb1 (cell_later hb0 cBp1_3)))⟩ | exact ⟨(cell_later hb3 (cell_later hb2 (cell_later hb1 (cell_later hb0 cBs0_3)))), (cell_later hb3 (cell_later hb2 (cell_later hb1 (cell_later hb0 cBs1_3)))), (cell_later hb3 (cell_later hb2 (cell_later hb1 (cell_later hb0 cBs2_3)))), (cell_later hb3 (cell_later hb2 (cell_later hb1 (cell_later hb0 cBs3_3)))), (cell_later hb3 (cell_later hb2 (cell_later hb1 (cell_later hb0 cBs4_3)))), (cell_later hb3 (cell_later hb2 (cell_later hb1 (cell_later hb0 cBp0_3)))), (cell_later hb3 (cell_later hb2 (cell_later hb1 (cell_later hb0 cBp1_3))))⟩)
      (first | (go_at_call 19; refine (store_conv s A cp w3.drew (HA.out.keep HB3.out.drew (Nat.le_refl _)) n9).mono ?_; rintro e w3_0 ⟨A2, cp2, rfl, hs2, hb0⟩; have hB0 := HB3.out.drew.trans (hb0.mono HB3.out.drew.size); have hf1 := (FD3.out.drew).keep hb0 (Nat.le_refl _)) | (go_at_call 21; refine (plan_conv Ac Ak cc ck c k w3_0 n1 n2 (HC.out.keep hB0 (Nat.le_refl _)) (HK.out.keep hB0 (Nat.le_refl _)) c9 k9).mono ?_; rintro e w3_1 ⟨Ac2, Ak2, cc2, ck2, rfl, hc2, hk2, hb1⟩; have hB1 := hB0.trans (hb1.mono hB0.size); have hs3 := hs2.keep hb1 (Nat.le_refl _); have hf2 := hf1.keep hb1 (Nat.le_refl _)) | (go_at_call 31; refine (dips_conv Ad cd dips w3_1 hf2 d9).mono ?_; rintro e w3_2 ⟨Ax, cx, rfl, hdx, hb2⟩; have hB2 := hB1.trans (hb2.mono hB1.size); have hs4 := hs3.keep hb2 (Nat.le_refl _); have hc3 := hc2.keep hb2 (Nat.le_refl _); have hk3 := hk2.keep hb2 (Nat.le_refl _)) | (go_at_call 45; refine (ho1.out A2 cp2 Ac2 Ak2 cc2 ck2 Ax cx w3_2 hs4 hc3 hk3 hdx).mono ?_; rintro e w4 ⟨A1, c1, L, H, rfl, hr1, hra, hb3⟩; have hB3 := hB2.trans (hb3.mono hB2.size)))
    have hbR : Below w3.drew.heap.size w3.drew w4 := ((((((hb0).trans (hb1.mono (hb0).size))).trans (hb2.mono (((hb0).trans (hb1.mono (hb0).size))).size))).trans (hb3.mono (((((hb0).trans (hb1.mono (hb0).size))).trans (hb2.mono (((hb0).trans (hb1.mono (hb0).size))).size))).size))
    have HB4 := Lib.hid ((HB3.out.drew).trans (hbR.mono (HB3.out.drew).size))
    have NBs4 := Lib.hid ((hbR.block Bs (Array.getElem?_eq_some_iff.1 NBs3.out).1).trans NBs3.out)
    have NBp4 := Lib.hid ((hbR.block Bp (Array.getElem?_eq_some_iff.1 NBp3.out).1).trans NBp3.out)
    have FD4 := Lib.hid ((FD3.out.drew).keep hbR (Nat.le_refl _))
    have FR4 := Lib.hid hra
    clear HB3 NBs3 NBp3 cBs0_3 cBs1_3 cBs2_3 cBs3_3 cBs4_3 cBp0_3 cBp1_3 FD3 hra hbR hb0 hB0 hb1 hB1 hb2 hB2 hb3 hB3 hs2 hc2 hk2 hs3 hf1 hf2 hdx hs4 hc3 hk3
    obtain ⟨cBs0_4, cBs1_4, cBs2_4, cBs3_4, cBs4_4⟩ := cells5 NBs4.out
    obtain ⟨cBp0_4, cBp1_4⟩ := cells2 NBp4.out
    have HR1 := Lib.hid hr1
    clear hr1 ho1
    have hnn : ((s.ns.length : Int) != (s.ns.length : Int)) = false := by simp
    have em : which.tmod (s.ns.length : Int) = which % (s.ns.length : Int) := Int.tmod_eq_emod_of_nonneg uw0
    have m0 := Int.emod_nonneg which (show (s.ns.length : Int) ≠ 0 by omega)
    have m1 := Int.emod_lt_of_pos which (show 0 < (s.ns.length : Int) by omega)
    obtain ⟨q, hq⟩ : ∃ q : Nat, which % (s.ns.length : Int) = q := ⟨(which % (s.ns.length : Int)).toNat, by omega⟩
    rw [hq] at em m0 m1
    have q0 : (0 : Int) ≤ (q : Int) := by omega
    have q1 : (q : Int) < (s.ns.length : Int) := by omega
    have hqn : q < s.ns.length := by omega
    have p1 : 1 ≤ (s.ns.length : Int) := by omega
    have hbd : ∀ i, i < s.ns.length → (0 ≤ L i ∧ L i ≤ 400) ∧ (0 ≤ H i ∧ H i ≤ 400) := fun i hi => by
      obtain ⟨t1, b1, h1, _, h2⟩ := HR1.out.lo i hi
      obtain ⟨t2, b2, h3, _, h4⟩ := HR1.out.hi i hi
      have h5 := oilF_bd HOK.out HPL.out h1 (i := i + 1) (by omega)
      have h6 := oilF_bd HOK.out HPL.out h3 (i := i + 1) (by omega)
      have h7 := HOK.out.c1
      rw [h2] at h5
      rw [h4] at h6
      omega
    have hb0 := hbd q hqn
    have hel := Lib.hid (ends_lo HR1.out hqn)
    have heh := Lib.hid (ends_hi HR1.out hqn)
    have hen := Lib.hid (fun n (hn : n < L q ∨ H q < n) => ends_not HR1.out hqn hn)
    obtain ⟨lo, hlo⟩ : ∃ x, L q = x := ⟨_, rfl⟩
    obtain ⟨hi, hhi⟩ : ∃ x, H q = x := ⟨_, rfl⟩
    rw [hlo] at hel hen hb0
    rw [hhi] at heh hen hb0
    have HLO := Lib.hid hlo
    have HHI := Lib.hid hhi
    obtain ⟨⟨y0, y1⟩, y2, y3⟩ := hb0
    have wl : IntKind.i64.wrap (lo - 1) = lo - 1 := IntWalk.i64_in _ (by omega)
    have wh : IntKind.i64.wrap (hi + 1) = hi + 1 := IntWalk.i64_in _ (by omega)
    clear hq m0 m1 hbd hlo hhi
    go_wp2_with fail
    go_loopw [15] (EnRel w4) (fun i _ => 4 - (intOf i).toNat)
    case atStart => exact ⟨0, by omega, rfl, Below.refl _ _⟩
    case round =>
      obtain ⟨j, hj, rfl, hb⟩ := hrel
      generalize wr = w5 at hb ⊢
      have hz : Since w4 w5 := hb
      have HB5 := Lib.hid ((HB4.out).trans (hb.mono (HB4.out).size))
      have NBs5 := Lib.hid ((hb.block Bs (Array.getElem?_eq_some_iff.1 NBs4.out).1).trans NBs4.out)
      have NBp5 := Lib.hid ((hb.block Bp (Array.getElem?_eq_some_iff.1 NBp4.out).1).trans NBp4.out)
      have FD5 := Lib.hid ((FD4.out).keep hb (Nat.le_refl _))
      have FR5 := Lib.hid ((FR4.out).keep hb (Nat.le_refl _))
      have FZ5 := Lib.hid hz
      clear HB4 NBs4 NBp4 cBs0_4 cBs1_4 cBs2_4 cBs3_4 cBs4_4 cBp0_4 cBp1_4 FD4 FR4 hz hb 
      obtain ⟨cBs0_5, cBs1_5, cBs2_5, cBs3_5, cBs4_5⟩ := cells5 NBs5.out
      obtain ⟨cBp0_5, cBp1_5⟩ := cells2 NBp5.out
      by_cases hlt : j < 4
      · have hlt' : decide ((j : Int) < 4) = true := by simp; omega
        obtain ⟨b, o, rfl, g0, g1⟩ := FR5.out.at_ hqn
        rw [HLO.out] at g0
        rw [HHI.out] at g1
        go_upto_region 11 with fail
        go_cut [16] from 62 to 86 (EnN s (atL c) (atL k) dips q j w5)
        case first =>
          have hen4 := Lib.hid (show ∀ W, Below w5.heap.size w5 W → EnN s (atL c) (atL k) dips q j w5 (.int .i64 (four lo hi (lo - 1) (hi + 1) j)) W from fun W hW => by
            have hj4 : j = 0 ∨ j = 1 ∨ j = 2 ∨ j = 3 := by omega
            rcases hj4 with rfl | rfl | rfl | rfl
            · exact ⟨lo, rfl, by omega, by omega, .inl ⟨by omega, y0, y1, hel.out⟩, hW⟩
            · exact ⟨hi, rfl, by omega, by omega, .inl ⟨by omega, y2, y3, heh.out⟩, hW⟩
            · exact ⟨lo - 1, rfl, by omega, by omega, .inr ⟨by omega, hen.out _ (by omega)⟩, hW⟩
            · exact ⟨hi + 1, rfl, by omega, by omega, .inr ⟨by omega, hen.out _ (by omega)⟩, hW⟩)
          have hix := fun W => run_index_four lo hi (lo - 1) (hi + 1) (k := j) hlt W
          generalize four lo hi (lo - 1) (hi + 1) j = F4 at hen4 hix
          go_quiet (fail)
          go_wp2_with fail
          go_meet
          case rel => exact hen4.out _ (by first | exact (Below.refl _ _).drewN _ | exact (Below.refl _ _).drew)
        case rest =>
          generalize wc = w6 at hcut ⊢
          obtain ⟨n, rfl, x0, x1, hcs, hb⟩ := hcut
          have HCS := Lib.hid hcs
          clear hcs g0 g1
          have HB6 := Lib.hid ((HB5.out).trans (hb.mono (HB5.out).size))
          have NBs6 := Lib.hid ((hb.block Bs (Array.getElem?_eq_some_iff.1 NBs5.out).1).trans NBs5.out)
          have NBp6 := Lib.hid ((hb.block Bp (Array.getElem?_eq_some_iff.1 NBp5.out).1).trans NBp5.out)
          have FD6 := Lib.hid ((FD5.out).keep hb (Nat.le_refl _))
          have FR6 := Lib.hid ((FR5.out).keep hb (Nat.le_refl _))
          have FZ6 := Lib.hid ((FZ5.out).keep hb (Nat.le_refl _))
          clear HB5 NBs5 NBp5 cBs0_5 cBs1_5 cBs2_5 cBs3_5 cBs4_5 cBp0_5 cBp1_5 FD5 FR5 FZ5 hb 
          obtain ⟨cBs0_6, cBs1_6, cBs2_6, cBs3_6, cBs4_6⟩ := cells5 NBs6.out
          obtain ⟨cBp0_6, cBp1_6⟩ := cells2 NBp6.out
          go_upto_region 12 with fail
          go_cut [17] from 87 to 96 (DMore dips ⟨q, n, n⟩ w6)
          case first =>
            obtain ⟨i0, hi0', hz0', hz1', hz2'⟩ := info_parts Try.info85
            have hi0 := Lib.hid hi0'
            have hz0 := Lib.hid hz0'
            have hz1 := Lib.hid hz1'
            have hz2 := Lib.hid hz2'
            clear hi0' hz0' hz1' hz2'
            have hbE : Below w6.heap.size w6 (w6.alloc (.cells #[] 85)) := (Below.refl _ _).alloc (Nat.le_refl _) _
            have hOE := Lib.hid (World.ownsRow_made (base := w6.heap.size) (e := 85) (size := 3) w6 #[] 0 (Nat.le_refl _) (by decide) rfl)
            go_wp2_with (at_builtin; refine wpList_app_dips rfl _ _ rfl w6.heap.size _ rfl hOE.out Ad cd dips rfl (FD6.out.keep hbE (Nat.le_refl _)) HDN.out (by omega) (by simp) ?_)
            intro vv v1 hO hg hsz
            have HX1 := Lib.hid (hbE.trans (below_of_grown hg hOE.out (Nat.le_refl _) (by simp)))
            have HO1 := Lib.hid hO
            have hs1 := HX1.out.size
            clear hO hg hsz
            go_wp2_with (at_builtin; refine wpList_append_own _ rfl _ _ 55 rfl w6.heap.size 85 i0 (.agg #[.int .i64 0, .int .i64 0, .int .i64 0]) 3 24 Try.underlying55 hi0.out hz0.out hz1.out hz2.out rfl (by decide) _ _ _ rfl (HO1.out.alloc _) ⟨v1.heap.size, 0, none⟩ 1 1 [.int .i64 q, .int .i64 n, .int .i64 n] rfl rfl (World.news_of_block (cs := #[.int .i64 q, .int .i64 n, .int .i64 n]) (t := 85) (fr := (0, 0)) (Go.heap_alloc_new v1 _)) (by simp [Value.oneCell']) (by unfold maxLen; omega) (by omega) (by simp; omega) ?_)
            intro va u6 hown6 hgrow hnil6
            have hx6 : Below w6.heap.size v1 u6 := ((Below.refl _ v1).alloc (by omega) _).trans (below_of_grown hgrow (HO1.out.alloc _) (Nat.le_refl _) (by simp; omega))
            have HB6 := Lib.hid (HX1.out.trans (hx6.mono (Nat.le_refl _)))
            have HOWN6 := Lib.hid (show u6.ownsRow w6.heap.size 85 3 va (dips.length + 1) (flatD (dips ++ [⟨q, n, n⟩])) by rw [flatD_snoc]; exact hown6)
            clear hown6 hgrow hnil6 hx6
            go_wp2_with fail
            go_meet
            case rel =>
              obtain ⟨Av, cv, he, hdv, _⟩ := DpsAt.of_own85 HOWN6.out
              exact ⟨Av, cv, he, hdv, HB6.out⟩
          case rest =>
            generalize wc = w7 at hcut ⊢
            obtain ⟨Am, cm, rfl, hdm, hb⟩ := hcut
            have hov := fun h0 h1 => one_valid (n := n) HDO.out H0.out hd4 hqn h0 h1
            obtain ⟨xs, hxs⟩ : ∃ xs, dips ++ [⟨q, n, n⟩] = xs := ⟨_, rfl⟩
            rw [hxs] at hdm hov ⊢
            have hcs := HCS.out
            rw [hxs] at hcs
            have HCX := Lib.hid hcs
            have hxl : xs.length = dips.length + 1 := by rw [← hxs]; simp
            have hx6 : xs.length ≤ 1000000 := by omega
            have HOV := Lib.hid hov
            clear hxl hxs hcs hov HCS
            have HB7 := Lib.hid ((HB6.out).trans (hb.mono (HB6.out).size))
            have NBs7 := Lib.hid ((hb.block Bs (Array.getElem?_eq_some_iff.1 NBs6.out).1).trans NBs6.out)
            have NBp7 := Lib.hid ((hb.block Bp (Array.getElem?_eq_some_iff.1 NBp6.out).1).trans NBp6.out)
            have FD7 := Lib.hid ((FD6.out).keep hb (Nat.le_refl _))
            have FR7 := Lib.hid ((FR6.out).keep hb (Nat.le_refl _))
            have FZ7 := Lib.hid ((FZ6.out).keep hb (Nat.le_refl _))
            have FM7 := Lib.hid hdm
            clear HB6 NBs6 NBp6 cBs0_6 cBs1_6 cBs2_6 cBs3_6 cBs4_6 cBp0_6 cBp1_6 FD6 FR6 FZ6 hdm hb 
            obtain ⟨cBs0_7, cBs1_7, cBs2_7, cBs3_7, cBs4_7⟩ := cells5 NBs7.out
            obtain ⟨cBp0_7, cBp1_7⟩ := cells2 NBp7.out
            have hld := Lib.hid (ldipped_any s A cp Ac Ak cc ck c k Am cm xs w7 n9 c9 k9 hx6 (HA.out.keep HB7.out (Nat.le_refl _)) (HC.out.keep HB7.out (Nat.le_refl _)) (HK.out.keep HB7.out (Nat.le_refl _)) FM7.out)
            by_cases hv : dippedL s c k xs = 0
            rotate_left
            · obtain ⟨E, hE⟩ : ∃ E, dippedL s c k xs = E := ⟨_, rfl⟩
              have hj2 : 2 ≤ j := by
                rcases HCX.out with ⟨_, h1, h2, _⟩ | ⟨h, _⟩
                · exact absurd (HOV.out h1 h2) hv
                · exact h
              rw [hE] at hld hv
              have hne : (E != 0) = true := by simpa using hv
              have hjd : decide ((j : Int) < 2) = false := by simp; omega
              clear hE hv
              go_wp2_with fail
              refine (hld.out).mono ?_
              rintro e w8 ⟨rfl, hb⟩
              have HB8 := Lib.hid ((HB7.out).trans (hb.mono (HB7.out).size))
              have NBs8 := Lib.hid ((hb.block Bs (Array.getElem?_eq_some_iff.1 NBs7.out).1).trans NBs7.out)
              have NBp8 := Lib.hid ((hb.block Bp (Array.getElem?_eq_some_iff.1 NBp7.out).1).trans NBp7.out)
              have FD8 := Lib.hid ((FD7.out).keep hb (Nat.le_refl _))
              have FR8 := Lib.hid ((FR7.out).keep hb (Nat.le_refl _))
              have FZ8 := Lib.hid ((FZ7.out).keep hb (Nat.le_refl _))
              have FM8 := Lib.hid ((FM7.out).keep hb (Nat.le_refl _))
              clear HB7 NBs7 NBp7 cBs0_7 cBs1_7 cBs2_7 cBs3_7 cBs4_7 cBp0_7 cBp1_7 FD7 FR7 FZ7 FM7 hb hld
              obtain ⟨cBs0_8, cBs1_8, cBs2_8, cBs3_8, cBs4_8⟩ := cells5 NBs8.out
              obtain ⟨cBp0_8, cBp1_8⟩ := cells2 NBp8.out
              go_wp2_with fail
              go_roundw
              case rel => exact ⟨j + 1, by omega, by go_num, FZ8.out⟩
              case measure => simp [intOf]; omega
            · rw [hv] at hld
              have HV1 := Lib.hid hv
              clear hv
              go_wp2_with fail
              refine (hld.out).mono ?_
              rintro e w8 ⟨rfl, hb⟩
              have HB8 := Lib.hid ((HB7.out).trans (hb.mono (HB7.out).size))
              have NBs8 := Lib.hid ((hb.block Bs (Array.getElem?_eq_some_iff.1 NBs7.out).1).trans NBs7.out)
              have NBp8 := Lib.hid ((hb.block Bp (Array.getElem?_eq_some_iff.1 NBp7.out).1).trans NBp7.out)
              have FD8 := Lib.hid ((FD7.out).keep hb (Nat.le_refl _))
              have FR8 := Lib.hid ((FR7.out).keep hb (Nat.le_refl _))
              have FZ8 := Lib.hid ((FZ7.out).keep hb (Nat.le_refl _))
              have FM8 := Lib.hid ((FM7.out).keep hb (Nat.le_refl _))
              clear HB7 NBs7 NBp7 cBs0_7 cBs1_7 cBs2_7 cBs3_7 cBs4_7 cBp0_7 cBp1_7 FD7 FR7 FZ7 FM7 hb hld
              obtain ⟨cBs0_8, cBs1_8, cBs2_8, cBs3_8, cBs4_8⟩ := cells5 NBs8.out
              obtain ⟨cBp0_8, cBp1_8⟩ := cells2 NBp8.out
              have ho2 := Lib.hid (fun A2 cp2 Ac2 Ak2 cc2 ck2 Ax cx W x1 x2 x3 x4 => oil_gen s A2 cp2 Ac2 Ak2 cc2 ck2 c k Ax cx xs W x1 x2 x3 x4 HV1.out)
              go_wp2_with fail
              go_region_held3 (fun X => X.cell? ⟨Bs, 0, none⟩ = some (.int .i64 s.cap) ∧ X.cell? ⟨Bs, 1, none⟩ = some (.int .i64 s.can) ∧ X.cell? ⟨Bs, 2, none⟩ = some (.int .i64 s.sl) ∧ X.cell? ⟨Bs, 3, none⟩ = some (.int .i64 s.sh) ∧ X.cell? ⟨Bs, 4, none⟩ = some (.slice A s.ns.length cp) ∧ X.cell? ⟨Bp, 0, none⟩ = some (.slice Ac c.length cc) ∧ X.cell? ⟨Bp, 1, none⟩ = some (.slice Ak k.length ck))
                (first | go_keep | exact ⟨(cell_later hb0 cBs0_8), (cell_later hb0 cBs1_8), (cell_later hb0 cBs2_8), (cell_later hb0 cBs3_8), (cell_later hb0 cBs4_8), (cell_later hb0 cBp0_8), (cell_later hb0 cBp1_8)⟩ | exact ⟨(cell_later hb1 (cell_later hb0 cBs0_8)), (cell_later hb1 (cell_later hb0 cBs1_8)), (cell_later hb1 (cell_later hb0 cBs2_8)), (cell_later hb1 (cell_later hb0 cBs3_8)), (cell_later hb1 (cell_later hb0 cBs4_8)), (cell_later hb1 (cell_later hb0 cBp0_8)), (cell_later hb1 (cell_later hb0 cBp1_8))⟩ | exact ⟨(cell_later hb2 (cell_later hb1 (cell_later hb0 cBs0_8))), (cell_later hb2 (cell_later hb1 (cell_later hb0 cBs1_8))), (cell_later hb2 (cell_later hb1 (cell_later hb0 cBs2_8))), (cell_later hb2 (cell_later hb1 (cell_later hb0 cBs3_8))), (cell_later hb2 (cell_later hb1 (cell_later hb0 cBs4_8))), (cell_later hb2 (cell_later hb1 (cell_later hb0 cBp0_8))), (cell_later hb2 (cell_later hb1 (cell_later hb0 cBp1_8)))⟩ | exact ⟨(cell_later hb3 (cell_later hb2 (cell_later hb1 (cell_later hb0 cBs0_8)))), (cell_later hb3 (cell_later hb2 (cell_later hb1 (cell_later hb0 cBs1_8)))), (cell_later hb3 (cell_later hb2 (cell_later hb1 (cell_later hb0 cBs2_8)))), (cell_later hb3 (cell_later hb2 (cell_later hb1 (cell_later hb0 cBs3_8)))), (cell_later hb3 (cell_later hb2 (cell_later hb1 (cell_later hb0 cBs4_8)))), (cell_later hb3 (cell_later hb2 (cell_later hb1 (cell_later hb0 cBp0_8)))), (cell_later hb3 (cell_later hb2 (cell_later hb1 (cell_later hb0 cBp1_8))))⟩)
                (first | (go_at_call 19; refine (store_conv s A cp w8.drew (HA.out.keep HB8.out.drew (Nat.le_refl _)) n9).mono ?_; rintro e w8_0 ⟨A2, cp2, rfl, hs2, hb0⟩; have hB0 := HB8.out.drew.trans (hb0.mono HB8.out.drew.size); have hf1 := (FM8.out.drew).keep hb0 (Nat.le_refl _)) | (go_at_call 21; refine (plan_conv Ac Ak cc ck c k w8_0 n1 n2 (HC.out.keep hB0 (Nat.le_refl _)) (HK.out.keep hB0 (Nat.le_refl _)) c9 k9).mono ?_; rintro e w8_1 ⟨Ac2, Ak2, cc2, ck2, rfl, hc2, hk2, hb1⟩; have hB1 := hB0.trans (hb1.mono hB0.size); have hs3 := hs2.keep hb1 (Nat.le_refl _); have hf2 := hf1.keep hb1 (Nat.le_refl _)) | (go_at_call 31; refine (dips_conv Am cm xs w8_1 hf2 hx6).mono ?_; rintro e w8_2 ⟨Ax, cx, rfl, hdx, hb2⟩; have hB2 := hB1.trans (hb2.mono hB1.size); have hs4 := hs3.keep hb2 (Nat.le_refl _); have hc3 := hc2.keep hb2 (Nat.le_refl _); have hk3 := hk2.keep hb2 (Nat.le_refl _)) | (go_at_call 45; refine (ho2.out A2 cp2 Ac2 Ak2 cc2 ck2 Ax cx w8_2 hs4 hc3 hk3 hdx).mono ?_; rintro e w9 ⟨A3, c3, z3, E3, L', H', rfl, hob, hb3⟩; have hB3 := hB2.trans (hb3.mono hB2.size)))
              have hbR : Below w8.drew.heap.size w8.drew w9 := ((((((hb0).trans (hb1.mono (hb0).size))).trans (hb2.mono (((hb0).trans (hb1.mono (hb0).size))).size))).trans (hb3.mono (((((hb0).trans (hb1.mono (hb0).size))).trans (hb2.mono (((hb0).trans (hb1.mono (hb0).size))).size))).size))
              have HB9 := Lib.hid ((HB8.out.drew).trans (hbR.mono (HB8.out.drew).size))
              have NBs9 := Lib.hid ((hbR.block Bs (Array.getElem?_eq_some_iff.1 NBs8.out).1).trans NBs8.out)
              have NBp9 := Lib.hid ((hbR.block Bp (Array.getElem?_eq_some_iff.1 NBp8.out).1).trans NBp8.out)
              have FD9 := Lib.hid ((FD8.out.drew).keep hbR (Nat.le_refl _))
              have FR9 := Lib.hid ((FR8.out.drew).keep hbR (Nat.le_refl _))
              have FZ9 := Lib.hid ((FZ8.out.drew).keep hbR (Nat.le_refl _))
              have FM9 := Lib.hid ((FM8.out.drew).keep hbR (Nat.le_refl _))
              clear HB8 NBs8 NBp8 cBs0_8 cBs1_8 cBs2_8 cBs3_8 cBs4_8 cBp0_8 cBp1_8 FD8 FR8 FZ8 FM8 hbR hb0 hB0 hb1 hB1 hb2 hB2 hb3 hB3 hs2 hc2 hk2 hs3 hf1 hf2 hdx hs4 hc3 hk3
              obtain ⟨cBs0_9, cBs1_9, cBs2_9, cBs3_9, cBs4_9⟩ := cells5 NBs9.out
              obtain ⟨cBp0_9, cBp1_9⟩ := cells2 NBp9.out
              have HOB := Lib.hid hob
              clear hob ho2
              rcases HCX.out with ⟨hj2, _, _, hco⟩ | ⟨hj2, hco⟩
              · rcases HOB.out with ⟨_, rfl, _⟩ | ⟨h, _⟩
                · have hjd : decide ((j : Int) < 2) = true := by simp; omega
                  have hjd2 : decide ((j : Int) ≥ 2) = false := by simp; omega
                  have hjd3 : decide (2 ≤ (j : Int)) = false := by simp; omega
                  clear hco hj2
                  go_wp2_with fail
                  go_roundw
                  case rel => exact ⟨j + 1, by omega, by go_num, FZ9.out⟩
                  case measure => simp [intOf]; omega
                · exact absurd hco h
              · rcases HOB.out with ⟨h, _⟩ | ⟨_, rfl, _⟩
                · exact absurd h hco
                · have hjd : decide ((j : Int) < 2) = false := by simp; omega
                  have hjd2 : decide ((j : Int) ≥ 2) = true := by simp; omega
                  have hjd3 : decide (2 ≤ (j : Int)) = true := by simp; omega
                  clear hco hj2
                  go_wp2_with fail
                  go_roundw
                  case rel => exact ⟨j + 1, by omega, by go_num, FZ9.out⟩
                  case measure => simp [intOf]; omega
      · have hlt' : decide ((j : Int) < 4) = false := by simp; omega
        go_wp2_with fail
        refine (awake_any _).mono ?_
        rintro e w6 ⟨rfl, hb⟩
        have HB6 := Lib.hid ((HB5.out).trans (hb.mono (HB5.out).size))
        have NBs6 := Lib.hid ((hb.block Bs (Array.getElem?_eq_some_iff.1 NBs5.out).1).trans NBs5.out)
        have NBp6 := Lib.hid ((hb.block Bp (Array.getElem?_eq_some_iff.1 NBp5.out).1).trans NBp5.out)
        have FD6 := Lib.hid ((FD5.out).keep hb (Nat.le_refl _))
        have FR6 := Lib.hid ((FR5.out).keep hb (Nat.le_refl _))
        have FZ6 := Lib.hid ((FZ5.out).keep hb (Nat.le_refl _))
        clear HB5 NBs5 NBp5 cBs0_5 cBs1_5 cBs2_5 cBs3_5 cBs4_5 cBp0_5 cBp1_5 FD5 FR5 FZ5 hb 
        obtain ⟨cBs0_6, cBs1_6, cBs2_6, cBs3_6, cBs4_6⟩ := cells5 NBs6.out
        obtain ⟨cBp0_6, cBp1_6⟩ := cells2 NBp6.out
        go_wp2_with fail
        go_ret
        exact ⟨rfl, HB6.out⟩
end Go.Proofs.Ytefhdcecbmgljaa

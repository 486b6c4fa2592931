/-
  Closed: the walk.
-/
import Derived.Test.YtkloaeaepjoijaaT11
set_option linter.all false
namespace Go.Proofs.Ytkloaeaepjoijaa
open Go.RowKit Go.WalkArith
def CsOk (cs : Int → Int) : Prop := ∀ c : Int, 0 ≤ c → 0 ≤ cs c ∧ cs c ≤ 60
theorem CsOk.zero : CsOk (fun _ => 0) := fun _ _ => ⟨Int.le_refl 0, (by decide : (0 : Int) ≤ 60)⟩
theorem CsOk.turn {cs : Int → Int} (h : CsOk cs) {c x : Int} (hx : 0 ≤ x ∧ x ≤ 60) : CsOk (updG cs c x) := fun d hd => by
  unfold updG
  split
  · exact hx
  · exact h d hd
theorem S1_zero (v : Int) (h0 : 0 ≤ v) (h1 : v < 10) : S1 ((0 : Nat) : Int) (fun _ => 0) v = 0 := by
  unfold S1
  split
  · rw [if_neg (by omega)]
  · rfl
/-- Between two triangles. -/
def Cl1 (w : World) (Bn Bc : Nat) (T C : Int) (vt i : Value) (wr : World) : Prop :=
  ∃ t : Nat, (t : Int) ≤ T ∧ i = .int .i64 t ∧ ∃ va l xs cs, CMem w Bn Bc T C wr va vt l xs cs ∧ CInv T C l xs (S1 t cs) ∧ l.length = 3 * t ∧ CsOk cs
/-- Within a triangle. -/
def Cl2 (w : World) (Bn Bc : Nat) (T C : Int) (t : Nat) (vt left i : Value) (wr : World) : Prop :=
  ∃ k : Nat, k ≤ 2 ∧ i = .int .i64 k ∧ ∃ (L : Int) (va : Value) (l : List Ang) (xs : List Int) (cs : Int → Int), left = .int .i64 L ∧ 36 - 17 * (k : Int) ≤ L ∧ L ≤ 36 - 4 * (k : Int) ∧ CMem w Bn Bc T C wr va vt l xs cs ∧ CInv T C l xs (S2 t L cs) ∧ l.length = 3 * t + k ∧ CsOk cs
/-- Between two circles. -/
def Cl3 (w : World) (Bn Bc : Nat) (T C : Int) (vt i : Value) (wr : World) : Prop :=
  ∃ c : Nat, (c : Int) ≤ C ∧ i = .int .i64 c ∧ ∃ va l xs cs, CMem w Bn Bc T C wr va vt l xs cs ∧ CInv T C l xs (S3 T c cs) ∧ (l.length : Int) ≤ 3 * T + 2 * c ∧ CsOk cs
/-- While the angles are read. -/
def Cl4 (w : World) (Bn Bc : Nat) (T C err : Int) (g cap : Nat) (vt : Value) (l0 : List Ang) (xs : List Int) (i : Value) (wr : World) : Prop :=
  ∃ k : Nat, k ≤ l0.length ∧ k ≤ 12 ∧ i = .int .i64 k ∧ ∃ l : List Ang, l.length = l0.length ∧ wr.heap[Bn]? = some (.cells #[.slice (some ⟨g, 0, none⟩) l0.length cap, .int .i64 T, .int .i64 C] 24 (0, 0)) ∧ AngRow wr g l ∧
    wr.ownsRow (Bc + 1) 3 1 vt xs.length (xs.map (Value.int .i64)) ∧ Below w.heap.size w wr ∧ (∀ j (h : j < l.length) (h0 : j < l0.length), l[j].t = l0[j].t ∧ l[j].c = l0[j].c) ∧ (∀ j (h : j < l.length), j < k → ReadOk err l[j] (fnOf xs j))
/-- What Closed hands back. -/
def ClosedPost (err : Int) (w : World) (e : Ending) (w' : World) : Prop :=
  Below w.heap.size w w' ∧ ∃ (A : Option Addr) (cap : Nat) (T C : Int) (vt : Value) (l : List Ang) (xs : List Int), e = .returned (.tuple #[.agg #[.slice A l.length cap, .int .i64 T, .int .i64 C], vt]) ∧ AngsAt w' A l ∧ IntsAt w' vt xs ∧ (∃ g, A = some ⟨g, 0, none⟩) ∧ ClosedOk T C err l xs
set_option maxRecDepth 100000 in
set_option maxHeartbeats 16000000 in
theorem closed_any (v : Value) (ws : List Int) (err : Int) (w : World) (hw : WordsAt w v ws) (hn : ws.length ≤ 9223372036854775807) (he : 0 ≤ err ∧ err ≤ 5) :
    Calls Try.prog 45 #[v, .int .i64 err] w (ClosedPost err w) := by
  have HW := Lib.hid hw
  have hword := Lib.hid (fun (W : World) (hb : Below w.heap.size w W) (k : Nat) (hk : k ≤ 1000) => word_any v ws k W (HW.out.keep hb (Nat.le_refl _)) hn hk)
  clear hw
  have hbA : Below w.heap.size w ((w.alloc (.cells #[.slice none 0 0, .int .i64 0, .int .i64 0] 24)).alloc (.cells #[.slice none 0 0, .int .i64 0, .int .i64 0] 24)) := ((Below.refl _ _).alloc (Nat.le_refl _) _).alloc (by simp) _
  go_enter Try.func45, Try.ntmps45
  go_wp2_with fail
  refine (hword.out _ hbA 0 (by omega)).mono ?_
  rintro e w1 ⟨q, rfl, q0, q1, rfl⟩
  obtain ⟨T, hT⟩ : ∃ T, q % 4 = T := ⟨_, rfl⟩
  have T0 : 0 ≤ T ∧ T ≤ 3 := by omega
  go_wp2_with fail
  have hbB : Below w.heap.size w ((w.alloc (.cells #[.slice none 0 0, .int .i64 0, .int .i64 0] 24)).alloc (.cells #[.slice none 0 0, .int .i64 T, .int .i64 0] 24)) := ((Below.refl _ _).alloc (Nat.le_refl _) _).alloc (by simp) _
  refine (hword.out _ hbB 1 (by omega)).mono ?_
  rintro e w1 ⟨q', rfl, q0', q1', rfl⟩
  obtain ⟨C, hC⟩ : ∃ C, q' % 3 = C := ⟨_, rfl⟩
  have C0 : 0 ≤ C ∧ C ≤ 2 := by omega
  go_wp2_with fail
  have hz0 : (w.alloc (.cells #[.slice none 0 0, .int .i64 0, .int .i64 0] 24)).heap.size = w.heap.size + 1 := by simp
  have hres := Go.heap_alloc_new w (.cells #[.slice none 0 0, .int .i64 0, .int .i64 0] 24)
  have hbw : Below w.heap.size w (w.alloc (.cells #[.slice none 0 0, .int .i64 0, .int .i64 0] 24)) := (Below.refl _ _).alloc (Nat.le_refl _) _
  obtain ⟨R, hR⟩ : ∃ R, w.heap.size = R := ⟨_, rfl⟩
  generalize hw0 : w.alloc (.cells #[.slice none 0 0, .int .i64 0, .int .i64 0] 24) = w0 at hz0 hres hbw ⊢
  have hstart : CMem w0 (w.heap.size + 1) (w.heap.size + 1 + 1) T C ((w0.alloc (.cells #[.slice none 0 0, .int .i64 T, .int .i64 C] 24)).alloc (.cells #[.int .i64 0, .int .i64 0, .int .i64 0] 126)) (.slice none 0 0) (.slice none 0 0) [] [] (fun _ => 0) :=
    ⟨((Below.refl _ _).alloc (Nat.le_refl _) _).alloc (by simp) _, (Below.heap_alloc _ _ _ (by simp; omega)).trans (heap_new_at _ _ _ hz0.symm), heap_new_at _ _ _ (by simp; omega), World.ownsRow_nil _ _ _ _, World.ownsRow_nil _ _ _ _, by omega, by omega⟩
  have hz1 : ((w0.alloc (.cells #[.slice none 0 0, .int .i64 T, .int .i64 C] 24)).alloc (.cells #[.int .i64 0, .int .i64 0, .int .i64 0] 126)).heap.size = w.heap.size + 1 + 1 + 1 := by simp; omega
  generalize (w0.alloc (.cells #[.slice none 0 0, .int .i64 T, .int .i64 C] 24)).alloc (.cells #[.int .i64 0, .int .i64 0, .int .i64 0] 126) = wS at hstart hz1 ⊢
  have HST := Lib.hid hstart
  have HRES := Lib.hid hres
  have HBW := Lib.hid hbw
  obtain ⟨Bn, hBn⟩ : ∃ Bn, R + 1 = Bn := ⟨_, rfl⟩
  obtain ⟨Bc, hBc⟩ : ∃ Bc, Bn + 1 = Bc := ⟨_, rfl⟩
  have hzS : Bc + 1 ≤ wS.heap.size := by omega
  rw [hR, hBn, hBc] at HST
  rw [hR] at HRES
  rw [hR, hBn] at hz0
  rw [hR] at ⊢
  rw [hBn, hBc] at ⊢
  clear hstart hres hbw hbA hbB hz1 hT hC q0 q1 q0' q1' hw0
  have HWW : ∀ X, Below w0.heap.size w0 X → Below w.heap.size w X := fun X h => HBW.out.trans (h.mono HBW.out.size)
  have HWX := Lib.hid HWW
  clear HWW
  go_loopw [7, 9] (Cl1 w0 Bn Bc T C) (fun _ i _ => T.toNat - (intOf i).toNat)
  case atStart => exact ⟨0, by omega, rfl, .slice none 0 0, [], [], fun _ => 0, HST.out, (CInv.nil T C).congr S1_zero, rfl, CsOk.zero⟩
  case round =>
    clear HST hzS
    obtain ⟨t, ht, rfl, va, l, xs, cs, hm, hi, hl, hcs⟩ := hrel
    have HM := Lib.hid hm
    have HI := Lib.hid hi
    have HL := Lib.hid hl
    have HCS := Lib.hid hcs
    obtain ⟨x0, x1, x2, x3⟩ := hm.cells
    clear hm hi hl hcs
    by_cases hlt : (t : Int) < T
    · have hlt' : decide ((t : Int) < T) = true := by simpa using hlt
      go_wp2_with fail
      obtain ⟨wo, rfl⟩ : ∃ wo : World, wo = wr := ⟨_, rfl⟩
      clear x0 x1 x2 x3
      go_loopw [7, 10, 11] (Cl2 w0 Bn Bc T C t) (fun _ _ k _ => 2 - (intOf k).toNat)
      case atStart => exact ⟨0, by omega, rfl, 36, va, l, xs, cs, rfl, by omega, by omega, HM.out, HI.out.congr (fun v _ _ => S2_start t cs v), HL.out, HCS.out⟩
      case round =>
        clear HM HI HL HCS
        clear va l xs cs
        obtain ⟨k, hk, rfl, Lf, va, l, xs, cs, rfl, hL0, hL1, hm, hi, hl, hcs⟩ := hrel
        have HM := Lib.hid hm
        have HI := Lib.hid hi
        have HL := Lib.hid hl
        have HCS := Lib.hid hcs
        obtain ⟨x0, x1, x2, x3⟩ := hm.cells
        have hl10 : l.length ≤ 100 := by omega
        have hbw := HWX.out _ hm.below
        clear hm hi hl hcs
        by_cases hk2 : k < 2
        · have hk2' : decide ((k : Int) < 2) = true := decide_eq_true (by omega)
          have hwd := hword.out wr hbw (2 * t + k + 2) (by omega)
          rw [show ((2 * t + k + 2 : Nat) : Int) = 2 * (t : Int) + (k : Int) + 2 by omega] at hwd
          have HWD := Lib.hid hwd
          clear hwd hbw
          go_wp2_with fail
          refine HWD.out.mono ?_
          rintro e wx ⟨q, rfl, q0, q1, rfl⟩
          clear HWD
          obtain ⟨X, hX⟩ : ∃ X, 4 + q % 14 = X := ⟨_, rfl⟩
          have X0 : 4 ≤ X ∧ X ≤ 17 := by omega
          rcases Int.lt_or_le 0 C with hC | hC
          rotate_left
          · have d1 : decide (0 < C) = false := decide_eq_false (by omega)
            have HM2 := Lib.hid (HM.out.keep ((Below.refl wr.heap.size wr).alloc (Nat.le_refl _) (.cells #[.int .i64 (t : Int), .int .i64 (-1), .int .i64 0, .int .i64 0] 71)))
            have lw := HM.out.lt
            have lz : (wr.alloc (.cells #[.int .i64 (t : Int), .int .i64 (-1), .int .i64 0, .int .i64 0] 71)).heap.size = wr.heap.size + 1 := by simp
            have lm := HM2.out.lt
            have hxl : xs.length ≤ 1000000 := by have := HI.out.len; omega
            have hll : l.length ≤ 1000000 := by omega
            have hbase : Bc + 1 ≤ ((wr.alloc (.cells #[.int .i64 (t : Int), .int .i64 (-1), .int .i64 0, .int .i64 0] 71)).alloc (.cells #[.int .i64 (t : Int), .int .i64 (-1), .int .i64 0, .int .i64 0] 71)).heap.size := by simp; omega
            go_wp2_with (at_builtin; refine wpList_app_ang rfl _ _ rfl (Bc + 1) va l ⟨(t : Int), (-1), 0, 0⟩ (wr.heap.size + 1) rfl (HM2.out.angs.alloc _) rfl (heap_new_at _ _ _ (by simp)) hll hbase ?_)
            intro g1 cap1 v1 o1 gr1 lt1
            have tr1 := Lib.hid ((HM2.out.tr.alloc (.cells #[.int .i64 (t : Int), .int .i64 (-1), .int .i64 0, .int .i64 0] 71)).kept gr1 (apart_types (HM2.out.tr.alloc (.cells #[.int .i64 (t : Int), .int .i64 (-1), .int .i64 0, .int .i64 0] 71)) (HM2.out.angs.alloc (.cells #[.int .i64 (t : Int), .int .i64 (-1), .int .i64 0, .int .i64 0] 71)) (by decide)))
            have O1 := Lib.hid o1
            have G1 := Lib.hid gr1
            have hv1 := gr1.size
            have hbase2 : Bc + 1 ≤ v1.heap.size := by omega
            clear o1 gr1
            have hbase3 : Bc + 1 ≤ (v1.alloc (.cells #[.int .i64 (X)] 3)).heap.size := by simp; omega
            go_wp2_with (at_builtin; refine wpList_app_int rfl _ _ rfl (Bc + 1) u7 xs (X) v1.heap.size rfl (tr1.out.alloc _) rfl (Go.heap_alloc_new v1 _) hxl hbase3 ?_)
            intro g2 cap2 v2 o2 gr2 lt2
            obtain ⟨hnet, hpush⟩ := HM2.out.push O1.out G1.out o2 gr2
            have z0 : v2.cell? ⟨Bn, 0, none⟩ = some va := by simp [World.cell?, hnet]
            have z1 : v2.frozen? ⟨Bn, 0, none⟩ = false := by simp [World.frozen?, hnet]
            have HP := Lib.hid hpush
            clear o2 gr2 hnet hpush tr1 O1 G1 lm hxl hll hbase hbase2 hbase3 hv1 lt1 lt2
            clear lw lz
            go_wp2_with fail
            go_roundw
            case rel => exact ⟨k + 1, by omega, by go_num, Lf - X, _, l ++ [⟨(t : Int), -1, 0, 0⟩], xs ++ [X], cs, rfl, by omega, by omega, HP.out, HI.out.push (by omega) (by omega) (by omega) (S2_free (by omega)), by simp [HL.out]; omega, HCS.out⟩
            case measure => simp [intOf]; omega
          by_cases hq2 : q / 16 % 2 = 0
          rotate_left
          · have d1 : decide (0 < C) = true := decide_eq_true hC
            have d2 : (q / 16 % 2 == 0) = false := by simpa using hq2
            have HM2 := Lib.hid (HM.out.keep ((Below.refl wr.heap.size wr).alloc (Nat.le_refl _) (.cells #[.int .i64 (t : Int), .int .i64 (-1), .int .i64 0, .int .i64 0] 71)))
            have lw := HM.out.lt
            have lz : (wr.alloc (.cells #[.int .i64 (t : Int), .int .i64 (-1), .int .i64 0, .int .i64 0] 71)).heap.size = wr.heap.size + 1 := by simp
            have lm := HM2.out.lt
            have hxl : xs.length ≤ 1000000 := by have := HI.out.len; omega
            have hll : l.length ≤ 1000000 := by omega
            have hbase : Bc + 1 ≤ ((wr.alloc (.cells #[.int .i64 (t : Int), .int .i64 (-1), .int .i64 0, .int .i64 0] 71)).alloc (.cells #[.int .i64 (t : Int), .int .i64 (-1), .int .i64 0, .int .i64 0] 71)).heap.size := by simp; omega
            go_wp2_with (at_builtin; refine wpList_app_ang rfl _ _ rfl (Bc + 1) va l ⟨(t : Int), (-1), 0, 0⟩ (wr.heap.size + 1) rfl (HM2.out.angs.alloc _) rfl (heap_new_at _ _ _ (by simp)) hll hbase ?_)
            intro g1 cap1 v1 o1 gr1 lt1
            have tr1 := Lib.hid ((HM2.out.tr.alloc (.cells #[.int .i64 (t : Int), .int .i64 (-1), .int .i64 0, .int .i64 0] 71)).kept gr1 (apart_types (HM2.out.tr.alloc (.cells #[.int .i64 (t : Int), .int .i64 (-1), .int .i64 0, .int .i64 0] 71)) (HM2.out.angs.alloc (.cells #[.int .i64 (t : Int), .int .i64 (-1), .int .i64 0, .int .i64 0] 71)) (by decide)))
            have O1 := Lib.hid o1
            have G1 := Lib.hid gr1
            have hv1 := gr1.size
            have hbase2 : Bc + 1 ≤ v1.heap.size := by omega
            clear o1 gr1
            have hbase3 : Bc + 1 ≤ (v1.alloc (.cells #[.int .i64 (X)] 3)).heap.size := by simp; omega
            go_wp2_with (at_builtin; refine wpList_app_int rfl _ _ rfl (Bc + 1) u7 xs (X) v1.heap.size rfl (tr1.out.alloc _) rfl (Go.heap_alloc_new v1 _) hxl hbase3 ?_)
            intro g2 cap2 v2 o2 gr2 lt2
            obtain ⟨hnet, hpush⟩ := HM2.out.push O1.out G1.out o2 gr2
            have z0 : v2.cell? ⟨Bn, 0, none⟩ = some va := by simp [World.cell?, hnet]
            have z1 : v2.frozen? ⟨Bn, 0, none⟩ = false := by simp [World.frozen?, hnet]
            have HP := Lib.hid hpush
            clear o2 gr2 hnet hpush tr1 O1 G1 lm hxl hll hbase hbase2 hbase3 hv1 lt1 lt2
            clear lw lz
            go_wp2_with fail
            go_roundw
            case rel => exact ⟨k + 1, by omega, by go_num, Lf - X, _, l ++ [⟨(t : Int), -1, 0, 0⟩], xs ++ [X], cs, rfl, by omega, by omega, HP.out, HI.out.push (by omega) (by omega) (by omega) (S2_free (by omega)), by simp [HL.out]; omega, HCS.out⟩
            case measure => simp [intOf]; omega
          obtain ⟨c, hc⟩ : ∃ c : Nat, q / 32 % C = c := ⟨(q / 32 % C).toNat, by have := Int.emod_nonneg (q / 32) (by omega : C ≠ 0); omega⟩
          have c3 : c < 3 ∧ (c : Int) < C := by have := Int.emod_lt_of_pos (q / 32) hC; omega
          obtain ⟨y0, y1⟩ := HM.out.circle c3.1
          have hcc := HCS.out c (by omega)
          by_cases h60 : cs c + X ≤ 60
          rotate_left
          · have d1 : decide (0 < C) = true := decide_eq_true hC
            have d2 : (q / 16 % 2 == 0) = true := by simpa using hq2
            have d3 : decide (cs c + X ≤ 60) = false := decide_eq_false h60
            have j1 : (0 : Int) ≤ (c : Int) := by omega
            have j2 : (c : Int) < 3 := by omega
            have HM2 := Lib.hid (HM.out.keep ((Below.refl wr.heap.size wr).alloc (Nat.le_refl _) (.cells #[.int .i64 (t : Int), .int .i64 (-1), .int .i64 0, .int .i64 0] 71)))
            have lw := HM.out.lt
            have lz : (wr.alloc (.cells #[.int .i64 (t : Int), .int .i64 (-1), .int .i64 0, .int .i64 0] 71)).heap.size = wr.heap.size + 1 := by simp
            have lm := HM2.out.lt
            have hxl : xs.length ≤ 1000000 := by have := HI.out.len; omega
            have hll : l.length ≤ 1000000 := by omega
            have hbase : Bc + 1 ≤ ((wr.alloc (.cells #[.int .i64 (t : Int), .int .i64 (-1), .int .i64 0, .int .i64 0] 71)).alloc (.cells #[.int .i64 (t : Int), .int .i64 (-1), .int .i64 0, .int .i64 0] 71)).heap.size := by simp; omega
            go_wp2_with (at_builtin; refine wpList_app_ang rfl _ _ rfl (Bc + 1) va l ⟨(t : Int), (-1), 0, 0⟩ (wr.heap.size + 1) rfl (HM2.out.angs.alloc _) rfl (heap_new_at _ _ _ (by simp)) hll hbase ?_)
            intro g1 cap1 v1 o1 gr1 lt1
            have tr1 := Lib.hid ((HM2.out.tr.alloc (.cells #[.int .i64 (t : Int), .int .i64 (-1), .int .i64 0, .int .i64 0] 71)).kept gr1 (apart_types (HM2.out.tr.alloc (.cells #[.int .i64 (t : Int), .int .i64 (-1), .int .i64 0, .int .i64 0] 71)) (HM2.out.angs.alloc (.cells #[.int .i64 (t : Int), .int .i64 (-1), .int .i64 0, .int .i64 0] 71)) (by decide)))
            have O1 := Lib.hid o1
            have G1 := Lib.hid gr1
            have hv1 := gr1.size
            have hbase2 : Bc + 1 ≤ v1.heap.size := by omega
            clear o1 gr1
            have hbase3 : Bc + 1 ≤ (v1.alloc (.cells #[.int .i64 (X)] 3)).heap.size := by simp; omega
            go_wp2_with (at_builtin; refine wpList_app_int rfl _ _ rfl (Bc + 1) u7 xs (X) v1.heap.size rfl (tr1.out.alloc _) rfl (Go.heap_alloc_new v1 _) hxl hbase3 ?_)
            intro g2 cap2 v2 o2 gr2 lt2
            obtain ⟨hnet, hpush⟩ := HM2.out.push O1.out G1.out o2 gr2
            have z0 : v2.cell? ⟨Bn, 0, none⟩ = some va := by simp [World.cell?, hnet]
            have z1 : v2.frozen? ⟨Bn, 0, none⟩ = false := by simp [World.frozen?, hnet]
            have HP := Lib.hid hpush
            clear o2 gr2 hnet hpush tr1 O1 G1 lm hxl hll hbase hbase2 hbase3 hv1 lt1 lt2
            clear lw lz
            go_wp2_with fail
            go_roundw
            case rel => exact ⟨k + 1, by omega, by go_num, Lf - X, _, l ++ [⟨(t : Int), -1, 0, 0⟩], xs ++ [X], cs, rfl, by omega, by omega, HP.out, HI.out.push (by omega) (by omega) (by omega) (S2_free (by omega)), by simp [HL.out]; omega, HCS.out⟩
            case measure => simp [intOf]; omega
          · have d1 : decide (0 < C) = true := decide_eq_true hC
            have d2 : (q / 16 % 2 == 0) = true := by simpa using hq2
            have d3 : decide (cs c + X ≤ 60) = true := decide_eq_true h60
            have j1 : (0 : Int) ≤ (c : Int) := by omega
            have j2 : (c : Int) < 3 := by omega
            have HM1 := Lib.hid (HM.out.turn c3.1 (cs c + X))
            have HM2 := Lib.hid (HM1.out.keep ((Below.refl (wr.setCell ⟨Bc, c, none⟩ (.int .i64 (cs c + X))).heap.size (wr.setCell ⟨Bc, c, none⟩ (.int .i64 (cs c + X)))).alloc (Nat.le_refl _) (.cells #[.int .i64 (t : Int), .int .i64 (c : Int), .int .i64 0, .int .i64 0] 71)))
            have lw := HM.out.lt
            have lz : ((wr.setCell ⟨Bc, c, none⟩ (.int .i64 (cs c + X))).alloc (.cells #[.int .i64 (t : Int), .int .i64 (c : Int), .int .i64 0, .int .i64 0] 71)).heap.size = wr.heap.size + 1 := by simp
            have lm := HM2.out.lt
            have hxl : xs.length ≤ 1000000 := by have := HI.out.len; omega
            have hll : l.length ≤ 1000000 := by omega
            have hbase : Bc + 1 ≤ (((wr.setCell ⟨Bc, c, none⟩ (.int .i64 (cs c + X))).alloc (.cells #[.int .i64 (t : Int), .int .i64 (c : Int), .int .i64 0, .int .i64 0] 71)).alloc (.cells #[.int .i64 (t : Int), .int .i64 (c : Int), .int .i64 0, .int .i64 0] 71)).heap.size := by simp; omega
            go_wp2_with (at_builtin; refine wpList_app_ang rfl _ _ rfl (Bc + 1) va l ⟨(t : Int), (c : Int), 0, 0⟩ (wr.heap.size + 1) rfl (HM2.out.angs.alloc _) rfl (heap_new_at _ _ _ (by simp)) hll hbase ?_)
            intro g1 cap1 v1 o1 gr1 lt1
            have tr1 := Lib.hid ((HM2.out.tr.alloc (.cells #[.int .i64 (t : Int), .int .i64 (c : Int), .int .i64 0, .int .i64 0] 71)).kept gr1 (apart_types (HM2.out.tr.alloc (.cells #[.int .i64 (t : Int), .int .i64 (c : Int), .int .i64 0, .int .i64 0] 71)) (HM2.out.angs.alloc (.cells #[.int .i64 (t : Int), .int .i64 (c : Int), .int .i64 0, .int .i64 0] 71)) (by decide)))
            have O1 := Lib.hid o1
            have G1 := Lib.hid gr1
            have hv1 := gr1.size
            have hbase2 : Bc + 1 ≤ v1.heap.size := by omega
            clear o1 gr1
            have hbase3 : Bc + 1 ≤ (v1.alloc (.cells #[.int .i64 (X)] 3)).heap.size := by simp; omega
            go_wp2_with (at_builtin; refine wpList_app_int rfl _ _ rfl (Bc + 1) u7 xs (X) v1.heap.size rfl (tr1.out.alloc _) rfl (Go.heap_alloc_new v1 _) hxl hbase3 ?_)
            intro g2 cap2 v2 o2 gr2 lt2
            obtain ⟨hnet, hpush⟩ := HM2.out.push O1.out G1.out o2 gr2
            have z0 : v2.cell? ⟨Bn, 0, none⟩ = some va := by simp [World.cell?, hnet]
            have z1 : v2.frozen? ⟨Bn, 0, none⟩ = false := by simp [World.frozen?, hnet]
            have HP := Lib.hid hpush
            clear o2 gr2 hnet hpush tr1 O1 G1 lm hxl hll hbase hbase2 hbase3 hv1 lt1 lt2
            clear lw lz
            go_wp2_with fail
            go_roundw
            case rel => exact ⟨k + 1, by omega, by go_num, Lf - X, _, l ++ [⟨(t : Int), c, 0, 0⟩], xs ++ [X], updG cs c (cs c + X), rfl, by omega, by omega, HP.out, HI.out.push (by omega) (by omega) (by omega) (S2_circ (by omega) (by omega)), by simp [HL.out]; omega, HCS.out.turn (by omega)⟩
            case measure => simp [intOf]; omega
        · have hk2' : decide ((k : Int) < 2) = false := decide_eq_false (by omega)
          obtain rfl : k = 2 := by omega
          have HM2 := HM
          have lw := HM.out.lt
          have lm := HM.out.lt
          have hxl : xs.length ≤ 1000000 := by have := HI.out.len; omega
          have hll : l.length ≤ 1000000 := by omega
          have hbase : Bc + 1 ≤ (wr.alloc (.cells #[.int .i64 (t : Int), .int .i64 (-1), .int .i64 0, .int .i64 0] 71)).heap.size := by simp; omega
          go_wp2_with (at_builtin; refine wpList_app_ang rfl _ _ rfl (Bc + 1) va l ⟨(t : Int), (-1), 0, 0⟩ wr.heap.size rfl (HM.out.angs.alloc _) rfl (Go.heap_alloc_new wr _) hll hbase ?_)
          intro g1 cap1 v1 o1 gr1 lt1
          have tr1 := Lib.hid ((HM.out.tr.alloc (.cells #[.int .i64 (t : Int), .int .i64 (-1), .int .i64 0, .int .i64 0] 71)).kept gr1 (apart_types (HM.out.tr.alloc (.cells #[.int .i64 (t : Int), .int .i64 (-1), .int .i64 0, .int .i64 0] 71)) (HM.out.angs.alloc (.cells #[.int .i64 (t : Int), .int .i64 (-1), .int .i64 0, .int .i64 0] 71)) (by decide)))
          have O1 := Lib.hid o1
          have G1 := Lib.hid gr1
          have hv1 := gr1.size
          have hbase2 : Bc + 1 ≤ v1.heap.size := by omega
          clear o1 gr1
          have hbase3 : Bc + 1 ≤ (v1.alloc (.cells #[.int .i64 (Lf)] 3)).heap.size := by simp; omega
          go_wp2_with (at_builtin; refine wpList_app_int rfl _ _ rfl (Bc + 1) u7 xs (Lf) v1.heap.size rfl (tr1.out.alloc _) rfl (Go.heap_alloc_new v1 _) hxl hbase3 ?_)
          intro g2 cap2 v2 o2 gr2 lt2
          obtain ⟨hnet, hpush⟩ := HM.out.push O1.out G1.out o2 gr2
          have z0 : v2.cell? ⟨Bn, 0, none⟩ = some va := by simp [World.cell?, hnet]
          have z1 : v2.frozen? ⟨Bn, 0, none⟩ = false := by simp [World.frozen?, hnet]
          have HP := Lib.hid hpush
          clear o2 gr2 hnet hpush tr1 O1 G1 lm hxl hll hbase hbase2 hbase3 hv1 lt1 lt2
          clear lw HM2
          go_wp2_with fail
          go_roundw
          case rel => exact ⟨t + 1, by omega, by go_num, _, l ++ [⟨(t : Int), -1, 0, 0⟩], xs ++ [Lf], cs, HP.out, HI.out.push (by omega) (by omega) (by omega) (S2_end (by omega)), by simp [HL.out]; omega, HCS.out⟩
          case measure => simp [intOf]; omega
    · have hlt' : decide ((t : Int) < T) = false := by simpa using hlt
      obtain rfl : (t : Int) = T := by omega
      go_wp2_with fail
      obtain ⟨wo, rfl⟩ : ∃ wo : World, wo = wr := ⟨_, rfl⟩
      clear x0 x1 x2 x3
      go_loopw [7, 15] (Cl3 w0 Bn Bc (t : Int) C) (fun _ i _ => C.toNat - (intOf i).toNat)
      case atStart => exact ⟨0, by omega, rfl, va, l, xs, cs, HM.out, HI.out.congr (fun v h0 _ => S3_start (t : Int) cs v h0), by rw [HL.out]; omega, HCS.out⟩
      case round =>
        clear HM HI HL HCS
        clear va l xs cs
        obtain ⟨c, hc, rfl, va, l, xs, cs, hm, hi, hl, hcs⟩ := hrel
        have HM := Lib.hid hm
        have HI := Lib.hid hi
        have HCS := Lib.hid hcs
        obtain ⟨x0, x1, x2, x3⟩ := hm.cells
        have hbw := HWX.out _ hm.below
        clear hm hi hcs
        by_cases hlc : (c : Int) < C
        · have hlc' : decide ((c : Int) < C) = true := by simpa using hlc
          obtain ⟨y0, y1⟩ := HM.out.circle (c := c) (by omega)
          have hcc := HCS.out c (by omega)
          have j1 : (0 : Int) ≤ (c : Int) := by omega
          have j2 : (c : Int) < 3 := by omega
          obtain ⟨M, hM⟩ : ∃ M, 72 - cs c = M := ⟨_, rfl⟩
          have M0 : 12 ≤ M ∧ M ≤ 72 := by omega
          have HI4 := Lib.hid (HI.out.congr (S' := S4 (t : Int) c M cs) (fun v _ _ => by rw [← hM]; exact S4_start (by omega) v))
          clear hbw
          by_cases h40 : 40 < M
          · have d1 : decide (40 < M) = true := decide_eq_true h40
            have HL := hl
            obtain ⟨H, hH⟩ : ∃ H, M / 2 = H := ⟨_, rfl⟩
            have H0 : 20 ≤ H ∧ H ≤ 36 ∧ M - H ≤ 36 ∧ 20 ≤ M - H := by omega
            have lm := HM.out.lt
            have hxl : xs.length ≤ 1000000 := by have := HI.out.len; omega
            have hll : l.length ≤ 1000000 := by omega
            have hbase : Bc + 1 ≤ (wr.alloc (.cells #[.int .i64 (-1), .int .i64 (c : Int), .int .i64 0, .int .i64 0] 71)).heap.size := by simp; omega
            go_wp2_with (at_builtin; refine wpList_app_ang rfl _ _ rfl (Bc + 1) va l ⟨(-1), (c : Int), 0, 0⟩ wr.heap.size rfl (HM.out.angs.alloc _) rfl (Go.heap_alloc_new wr _) hll hbase ?_)
            intro g1 cap1 v1 o1 gr1 lt1
            have tr1 := Lib.hid ((HM.out.tr.alloc (.cells #[.int .i64 (-1), .int .i64 (c : Int), .int .i64 0, .int .i64 0] 71)).kept gr1 (apart_types (HM.out.tr.alloc (.cells #[.int .i64 (-1), .int .i64 (c : Int), .int .i64 0, .int .i64 0] 71)) (HM.out.angs.alloc (.cells #[.int .i64 (-1), .int .i64 (c : Int), .int .i64 0, .int .i64 0] 71)) (by decide)))
            have O1 := Lib.hid o1
            have G1 := Lib.hid gr1
            have hv1 := gr1.size
            have hbase2 : Bc + 1 ≤ v1.heap.size := by omega
            clear o1 gr1
            have hbase3 : Bc + 1 ≤ (v1.alloc (.cells #[.int .i64 (M - H)] 3)).heap.size := by simp; omega
            go_wp2_with (at_builtin; refine wpList_app_int rfl _ _ rfl (Bc + 1) u7 xs (M - H) v1.heap.size rfl (tr1.out.alloc _) rfl (Go.heap_alloc_new v1 _) hxl hbase3 ?_)
            intro g2 cap2 v2 o2 gr2 lt2
            obtain ⟨hnet, hpush⟩ := HM.out.push O1.out G1.out o2 gr2
            have z0 : v2.cell? ⟨Bn, 0, none⟩ = some va := by simp [World.cell?, hnet]
            have z1 : v2.frozen? ⟨Bn, 0, none⟩ = false := by simp [World.frozen?, hnet]
            have HP := Lib.hid hpush
            clear o2 gr2 hnet hpush tr1 O1 G1 lm hxl hll hbase hbase2 hbase3 hv1 lt1 lt2
            go_upto_region 28 with fail
            obtain ⟨l1, hl1⟩ : ∃ l1, l ++ [⟨-1, (c : Int), 0, 0⟩] = l1 := ⟨_, rfl⟩
            obtain ⟨xs1, hx1⟩ : ∃ xs1, xs ++ [M - H] = xs1 := ⟨_, rfl⟩
            have HI5 := Lib.hid (HI4.out.push (r := 0) (g := 0) (x := M - H) (by omega : (-1 : Int) ≤ -1 ∧ (-1 : Int) < (t : Int)) (by omega : -1 ≤ (c : Int) ∧ (c : Int) < C) (by omega) (fun v h0 h1 => S4_step (cs := cs) (T := (t : Int)) (c := (c : Int)) (miss := M) (by omega) v h0 h1))
            have hl1' : l1.length = l.length + 1 := by rw [← hl1]; simp
            rw [hl1, hx1] at HP HI5
            generalize v2.setCell ⟨Bn, 0, none⟩ (.slice (some ⟨g1, 0, none⟩) (l.length + 1) cap1) = wP at HP ⊢
            obtain ⟨va1, hva1⟩ : ∃ v, Value.slice (some ⟨g1, 0, none⟩) (l.length + 1) cap1 = v := ⟨_, rfl⟩
            obtain ⟨vt1, hvt1⟩ : ∃ v, Value.slice (some ⟨g2, 0, none⟩) (xs.length + 1) cap2 = v := ⟨_, rfl⟩
            rw [hva1, hvt1] at HP
            rw [hvt1]
            replace x0 := HP.out.cells.1
            have HL2 : (l1.length : Int) ≤ 1000 := by omega
            have HHl : (l1.length : Int) ≤ 3 * (t : Int) + 2 * (c : Int) + 1 := by omega
            clear z0 z1 hl1 hx1 hva1 hvt1 x1 x2 x3 y0 y1 hl1' HL hl
            have lm := HP.out.lt
            have hxl : xs1.length ≤ 1000000 := by have := HI5.out.len; omega
            have hll : l1.length ≤ 1000000 := by omega
            have hbase : Bc + 1 ≤ (wP.alloc (.cells #[.int .i64 (-1), .int .i64 (c : Int), .int .i64 0, .int .i64 0] 71)).heap.size := by simp; omega
            go_wp2_with (at_builtin; refine wpList_app_ang rfl _ _ rfl (Bc + 1) va1 l1 ⟨(-1), (c : Int), 0, 0⟩ wP.heap.size rfl (HP.out.angs.alloc _) rfl (Go.heap_alloc_new wP _) hll hbase ?_)
            intro g1 cap1 v1 o1 gr1 lt1
            have tr1 := Lib.hid ((HP.out.tr.alloc (.cells #[.int .i64 (-1), .int .i64 (c : Int), .int .i64 0, .int .i64 0] 71)).kept gr1 (apart_types (HP.out.tr.alloc (.cells #[.int .i64 (-1), .int .i64 (c : Int), .int .i64 0, .int .i64 0] 71)) (HP.out.angs.alloc (.cells #[.int .i64 (-1), .int .i64 (c : Int), .int .i64 0, .int .i64 0] 71)) (by decide)))
            have O1 := Lib.hid o1
            have G1 := Lib.hid gr1
            have hv1 := gr1.size
            have hbase2 : Bc + 1 ≤ v1.heap.size := by omega
            clear o1 gr1
            have hbase3 : Bc + 1 ≤ (v1.alloc (.cells #[.int .i64 (H)] 3)).heap.size := by simp; omega
            go_wp2_with (at_builtin; refine wpList_app_int rfl _ _ rfl (Bc + 1) vt1 xs1 (H) v1.heap.size rfl (tr1.out.alloc _) rfl (Go.heap_alloc_new v1 _) hxl hbase3 ?_)
            intro g2 cap2 v2 o2 gr2 lt2
            obtain ⟨hnet, hpush⟩ := HP.out.push O1.out G1.out o2 gr2
            have z0 : v2.cell? ⟨Bn, 0, none⟩ = some va1 := by simp [World.cell?, hnet]
            have z1 : v2.frozen? ⟨Bn, 0, none⟩ = false := by simp [World.frozen?, hnet]
            have HP2 := Lib.hid hpush
            clear o2 gr2 hnet hpush tr1 O1 G1 lm hxl hll hbase hbase2 hbase3 hv1 lt1 lt2
            go_wp2_with fail
            go_roundw
            case rel => exact ⟨c + 1, by omega, by go_num, _, l1 ++ [⟨-1, (c : Int), 0, 0⟩], xs1 ++ [H], cs, HP2.out, HI5.out.push (by omega) (by omega) (by omega) (fun v h0 h1 => by
                have e1 : S3 (t : Int) ((c + 1 : Nat) : Int) cs v = S4 (t : Int) c (M - (M - H) - H) cs v := by rw [show M - (M - H) - H = 0 by omega, show ((c + 1 : Nat) : Int) = (c : Int) + 1 by omega]; exact S4_end (by omega) v
                rw [e1]
                exact S4_step (by omega) v h0 h1), by simp; omega, HCS.out⟩
            case measure => simp [intOf]; omega
          · have d1 : decide (40 < M) = false := decide_eq_false h40
            have HL := hl
            have lm := HM.out.lt
            have hxl : xs.length ≤ 1000000 := by have := HI.out.len; omega
            have hll : l.length ≤ 1000000 := by omega
            have hbase : Bc + 1 ≤ (wr.alloc (.cells #[.int .i64 (-1), .int .i64 (c : Int), .int .i64 0, .int .i64 0] 71)).heap.size := by simp; omega
            go_wp2_with (at_builtin; refine wpList_app_ang rfl _ _ rfl (Bc + 1) va l ⟨(-1), (c : Int), 0, 0⟩ wr.heap.size rfl (HM.out.angs.alloc _) rfl (Go.heap_alloc_new wr _) hll hbase ?_)
            intro g1 cap1 v1 o1 gr1 lt1
            have tr1 := Lib.hid ((HM.out.tr.alloc (.cells #[.int .i64 (-1), .int .i64 (c : Int), .int .i64 0, .int .i64 0] 71)).kept gr1 (apart_types (HM.out.tr.alloc (.cells #[.int .i64 (-1), .int .i64 (c : Int), .int .i64 0, .int .i64 0] 71)) (HM.out.angs.alloc (.cells #[.int .i64 (-1), .int .i64 (c : Int), .int .i64 0, .int .i64 0] 71)) (by decide)))
            have O1 := Lib.hid o1
            have G1 := Lib.hid gr1
            have hv1 := gr1.size
            have hbase2 : Bc + 1 ≤ v1.heap.size := by omega
            clear o1 gr1
            have hbase3 : Bc + 1 ≤ (v1.alloc (.cells #[.int .i64 (M)] 3)).heap.size := by simp; omega
            go_wp2_with (at_builtin; refine wpList_app_int rfl _ _ rfl (Bc + 1) u7 xs (M) v1.heap.size rfl (tr1.out.alloc _) rfl (Go.heap_alloc_new v1 _) hxl hbase3 ?_)
            intro g2 cap2 v2 o2 gr2 lt2
            obtain ⟨hnet, hpush⟩ := HM.out.push O1.out G1.out o2 gr2
            have z0 : v2.cell? ⟨Bn, 0, none⟩ = some va := by simp [World.cell?, hnet]
            have z1 : v2.frozen? ⟨Bn, 0, none⟩ = false := by simp [World.frozen?, hnet]
            have HP := Lib.hid hpush
            clear o2 gr2 hnet hpush tr1 O1 G1 lm hxl hll hbase hbase2 hbase3 hv1 lt1 lt2
            clear HL
            go_wp2_with fail
            go_roundw
            case rel => exact ⟨c + 1, by omega, by go_num, _, l ++ [⟨-1, (c : Int), 0, 0⟩], xs ++ [M], cs, HP.out, HI4.out.push (by omega) (by omega) (by omega) (fun v h0 h1 => by
                have e1 : S3 (t : Int) ((c + 1 : Nat) : Int) cs v = S4 (t : Int) c (M - M) cs v := by rw [Int.sub_self, show ((c + 1 : Nat) : Int) = (c : Int) + 1 by omega]; exact S4_end (by omega) v
                rw [e1]
                exact S4_step (by omega) v h0 h1), by simp; omega, HCS.out⟩
            case measure => simp [intOf]; omega
        · have hlc' : decide ((c : Int) < C) = false := by simpa using hlc
          obtain rfl : (c : Int) = C := by omega
          obtain ⟨As, cas, hva, hsome⟩ := HM.out.slice
          subst hva
          by_cases hl0 : l.length = 0
          · have b0 : ((l.length : Int) == 0) = true := by simp [hl0]
            have hl00 : l.length ≤ 0 := by omega
            clear hl0
            have HL := hl
            have hl12 : l.length ≤ 12 := by omega
            have lm := HM.out.lt
            have hxl : xs.length ≤ 1000000 := by have := HI.out.len; omega
            have hll : l.length ≤ 1000000 := by omega
            have hbase : Bc + 1 ≤ (wr.alloc (.cells #[.int .i64 (-1), .int .i64 (-1), .int .i64 0, .int .i64 0] 71)).heap.size := by simp; omega
            go_wp2_with (at_builtin; refine wpList_app_ang rfl _ _ rfl (Bc + 1) (.slice As l.length cas) l ⟨(-1), (-1), 0, 0⟩ wr.heap.size rfl (HM.out.angs.alloc _) rfl (Go.heap_alloc_new wr _) hll hbase ?_)
            intro g1 cap1 v1 o1 gr1 lt1
            have tr1 := Lib.hid ((HM.out.tr.alloc (.cells #[.int .i64 (-1), .int .i64 (-1), .int .i64 0, .int .i64 0] 71)).kept gr1 (apart_types (HM.out.tr.alloc (.cells #[.int .i64 (-1), .int .i64 (-1), .int .i64 0, .int .i64 0] 71)) (HM.out.angs.alloc (.cells #[.int .i64 (-1), .int .i64 (-1), .int .i64 0, .int .i64 0] 71)) (by decide)))
            have O1 := Lib.hid o1
            have G1 := Lib.hid gr1
            have hv1 := gr1.size
            have hbase2 : Bc + 1 ≤ v1.heap.size := by omega
            clear o1 gr1
            go_wp2_with fail
            refine (hword.out v1 (HWX.out _ (HM.out.below1 G1.out)) 10 (by omega)).mono ?_
            rintro e wx ⟨qa, rfl, qa0, qa1, rfl⟩
            obtain ⟨X, hX⟩ : ∃ X, qa % 41 = X := ⟨_, rfl⟩
            have X0 : 0 ≤ X ∧ X ≤ 40 := by omega
            have hbase3 : Bc + 1 ≤ (v1.alloc (.cells #[.int .i64 (X)] 3)).heap.size := by simp; omega
            go_wp2_with (at_builtin; refine wpList_app_int rfl _ _ rfl (Bc + 1) u7 xs (X) v1.heap.size rfl (tr1.out.alloc _) rfl (Go.heap_alloc_new v1 _) hxl hbase3 ?_)
            intro g2 cap2 v2 o2 gr2 lt2
            obtain ⟨hnet, hpush⟩ := HM.out.push O1.out G1.out o2 gr2
            have z0 : v2.cell? ⟨Bn, 0, none⟩ = some (.slice As l.length cas) := by simp [World.cell?, hnet]
            have z1 : v2.frozen? ⟨Bn, 0, none⟩ = false := by simp [World.frozen?, hnet]
            have HP := Lib.hid hpush
            clear o2 gr2 hnet hpush tr1 O1 G1 lm hxl hll hbase hbase2 hbase3 hv1 lt1 lt2
            go_upto_region 32 with fail
            obtain ⟨l1, hl1⟩ : ∃ l1, l ++ [⟨-1, -1, 0, 0⟩] = l1 := ⟨_, rfl⟩
            obtain ⟨xs1, hx1⟩ : ∃ xs1, xs ++ [X] = xs1 := ⟨_, rfl⟩
            have HI5 := Lib.hid (HI.out.push (S' := S3 (t : Int) (c : Int) cs) (r := 0) (g := 0) (x := X) (by omega : (-1 : Int) ≤ -1 ∧ (-1 : Int) < (t : Int)) (by omega : (-1 : Int) ≤ -1 ∧ (-1 : Int) < (c : Int)) (by omega) (fun v h0 h1 => S_alone _ v h1))
            have hl1' : l1.length = l.length + 1 := by rw [← hl1]; simp
            have hx1' : xs1.length = xs.length + 1 := by rw [← hx1]; simp
            rw [hl1, hx1] at HP HI5
            generalize v2.setCell ⟨Bn, 0, none⟩ (.slice (some ⟨g1, 0, none⟩) (l.length + 1) cap1) = wP at HP ⊢
            obtain ⟨vt1, hvt1⟩ : ∃ v, Value.slice (some ⟨g2, 0, none⟩) (xs.length + 1) cap2 = v := ⟨_, rfl⟩
            rw [hvt1, ← hl1'] at HP
            rw [hvt1]
            have hl13 : l1.length ≤ 13 := by omega
            have hlp : 0 < l1.length := by omega
            clear z0 z1 hl1 hx1 x0 x1 x2 x3 hl1' hx1' HL hl hl12 hX hvt1
            have hrow : AngRow wP g1 l1 ∧ Bc + 1 ≤ g1 := by
              obtain ⟨g', cap', he', h1, h2⟩ := AngRow.of_own hlp HP.out.angs
              cases he'
              exact ⟨h2, h1⟩
            have HROW := Lib.hid hrow.1
            have hgB := hrow.2
            have HNET := Lib.hid HP.out.net
            have HTR := Lib.hid HP.out.tr
            have HBE := Lib.hid HP.out.below
            have hb0 := HP.out.b0
            have hb1 := HP.out.b1
            clear hrow
            have hTT : 0 ≤ (t : Int) ∧ (t : Int) ≤ 3 := T0
            have hCC : 0 ≤ (c : Int) ∧ (c : Int) ≤ 2 := C0
            have hll := HP.out.below
            go_wp2_with fail
            obtain ⟨wo4, rfl⟩ : ∃ wo : World, wo = wP := ⟨_, rfl⟩
            clear hll
            obtain ⟨At, ct, hvt, _⟩ := IntsAt.of_own HTR.out
            subst hvt
            go_loopw [17] (Cl4 w0 Bn Bc (t : Int) (c : Int) err g1 cap1 (.slice At xs1.length ct) l1 xs1) (fun i _ => 12 - (intOf i).toNat)
            case atStart => exact ⟨0, by omega, by omega, rfl, l1, rfl, HNET.out, HROW.out, HTR.out, HBE.out, fun j h h0 => ⟨rfl, rfl⟩, fun j h hj => by omega⟩
            case round =>
              clear HNET HROW HTR HBE
              obtain ⟨k, hk1, hk2, rfl, l4, hl4, hnet, hrow, htr, hbe, htc, hrd⟩ := hrel
              have HNET := Lib.hid hnet
              have HROW := Lib.hid hrow
              have HTR := Lib.hid htr
              have HBE := Lib.hid hbe
              have HTC := Lib.hid htc
              have HRD := Lib.hid hrd
              have HL4 := Lib.hid hl4
              have x0 : wr.cell? ⟨Bn, 0, none⟩ = some (.slice (some ⟨g1, 0, none⟩) l1.length cap1) := by simp [World.cell?, hnet]
              have lBn := (Array.getElem?_eq_some_iff.1 hnet).1
              have lg := hrow.lt
              have lw4 := hbe.size
              clear hnet hrow htr hbe htc hrd hl4
              by_cases hkl : k < l1.length
              · have k1 : decide ((k : Int) < (l1.length : Int)) = true := decide_eq_true (by omega)
                by_cases hk12 : k < 12
                · have k2 : decide ((k : Int) < 12) = true := decide_eq_true (by omega)
                  have hkl4 : k < l4.length := by rw [HL4.out]; exact hkl
                  obtain ⟨a0, a1, a2, a3⟩ := HROW.out.cells hkl4
                  have f2 := HROW.out.frozen (k * 4 + 2)
                  have f3 := HROW.out.frozen (k * 4 + 3)
                  have hwd := hword.out wr (HWX.out _ HBE.out) (k + 11) (by omega)
                  rw [show ((k + 11 : Nat) : Int) = (k : Int) + 11 by omega] at hwd
                  have HWD := Lib.hid hwd
                  have hxl : k < xs1.length := by have := HI5.out.len; omega
                  have hx01 := HI5.out.x01 xs1[k] (List.getElem_mem hxl)
                  have htv := IntsAt.of_own HTR.out
                  obtain ⟨At', ct', hvt, htc2⟩ := htv
                  obtain ⟨rfl, rfl⟩ : At = At' ∧ ct = ct' := by simpa using hvt
                  clear hvt
                  obtain ⟨bx, ox, rfl, hxc⟩ := htc2.resolve_left (fun h => by rw [h] at hxl; simp at hxl)
                  have xk := hxc k hxl
                  obtain ⟨x, hx⟩ : ∃ x, xs1[k] = x := ⟨_, rfl⟩
                  rw [hx] at xk hx01
                  have HX := Lib.hid hx
                  have i1 : (0 : Int) ≤ (k : Int) := by omega
                  have i2 : (k : Int) < (l1.length : Int) := by omega
                  have i3 : (k : Int) < (xs1.length : Int) := by omega
                  have hbg : bx ≠ g1 := by
                    rcases row_not_ang HTR.out HROW.out with h | h
                    · simp [Value.ownBlock] at h
                    · simpa [Value.ownBlock] using h
                  have hgb : g1 ≠ bx := fun h => hbg h.symm
                  have hgn : g1 ≠ Bn := by omega
                  have hgn' : Bn ≠ g1 := by omega
                  clear hwd hxc hx
                  go_wp2_with fail
                  refine HWD.out.mono ?_
                  rintro e wx ⟨q, rfl, q0, q1, rfl⟩
                  clear HWD
                  obtain ⟨G, hG⟩ : ∃ G, 1 + q % 3 = G := ⟨_, rfl⟩
                  have G0 : 1 ≤ G ∧ G ≤ 3 := by omega
                  have w0' : 0 ≤ err * G := Int.mul_nonneg he.1 (by omega)
                  have w1' : err * G ≤ 5 * 3 := Int.mul_le_mul he.2 G0.2 (by omega) (by omega)
                  obtain ⟨Wd, hWd⟩ : ∃ Wd, err * G = Wd := ⟨_, rfl⟩
                  rw [hWd] at w0' w1'
                  obtain ⟨D, hD⟩ : ∃ D, q / 4 = D := ⟨_, rfl⟩
                  have D0 : 0 ≤ D := by omega
                  obtain ⟨m, hm⟩ : ∃ m, D % (2 * Wd + 1) = m := ⟨_, rfl⟩
                  have m0 : 0 ≤ m ∧ m ≤ 2 * Wd := by
                    have h1 := Int.emod_nonneg D (show 2 * Wd + 1 ≠ 0 by omega)
                    have h2 := Int.emod_lt_of_pos D (show 0 < 2 * Wd + 1 by omega)
                    omega
                  go_upto_region 39 with fail
                  have HROWv := Lib.hid (HROW.out.put hkl4 (f := 3) (by omega) G)
                  have ho3 : ∀ j, j ≠ g1 → (wr.setCell ⟨g1, k * 4 + 3, none⟩ (.int .i64 G)).heap[j]? = wr.heap[j]? := fun j hj => Below.heap_setCell _ _ _ _ hj
                  have xkv : (wr.setCell ⟨g1, k * 4 + 3, none⟩ (.int .i64 G)).cell? ⟨bx, ox + k, none⟩ = some (.int .i64 x) := (World.cell?_of_block (a := ⟨bx, ox + k, none⟩) (ho3 bx hbg)).trans xk
                  have HNETv := Lib.hid ((ho3 Bn (by omega)).trans HNET.out)
                  have HTRv := Lib.hid (HTR.out.kept (row := some g1) (w' := wr.setCell ⟨g1, k * 4 + 3, none⟩ (.int .i64 G)) ⟨rfl, rfl, rfl, by simp, fun j _ hj => ho3 j (fun e => hj (by rw [e]))⟩ (row_not_ang HTR.out HROW.out))
                  have HBEv := Lib.hid (HBE.out.setCell (p := ⟨g1, k * 4 + 3, none⟩) (by show w0.heap.size ≤ g1; omega) (.int .i64 G))
                  generalize wr.setCell ⟨g1, k * 4 + 3, none⟩ (.int .i64 G) = wv at HROWv xkv HNETv HTRv HBEv ⊢
                  clear ho3 HNET HTR HBE a0 a1 a2 a3 f2 f3 xk x0
                  have hkl5 : k < (l4.set k (putF l4[k] 3 G)).length := by simpa using hkl4
                  have b2 := (HROWv.out.cells hkl5).2.2.1
                  have f2 := HROWv.out.frozen (k * 4 + 2)
                  have lgv := HROWv.out.lt
                  have v1 : IntKind.i64.wrap (2 * Wd) = 2 * Wd := IntWalk.i64_in _ (by omega)
                  have v2' : IntKind.i64.wrap (2 * Wd + 1) = 2 * Wd + 1 := IntWalk.i64_in _ (by omega)
                  have v3 : IntKind.i64.wrap (x + m) = x + m := IntWalk.i64_in _ (by omega)
                  have v4 : IntKind.i64.wrap (x + m - Wd) = x + m - Wd := IntWalk.i64_in _ (by omega)
                  have v5 : q.tdiv 4 = D := by rw [← hD]; exact Int.tdiv_eq_ediv_of_nonneg q0
                  have v6 : D.tmod (2 * Wd + 1) = m := by rw [← hm]; exact Int.tmod_eq_emod_of_nonneg D0
                  have p1 : (2 * Wd + 1 == 0) = false := by simp; omega
                  have p2 : ¬ (2 * Wd + 1 = 0) := by omega
                  have v7 : IntKind.i64.wrap D = D := IntWalk.i64_in _ (by omega)
                  have v8 : IntKind.i64.wrap m = m := IntWalk.i64_in _ (by omega)
                  refine wp_region_held_drew (S := fun X => X.cell? ⟨bx, ox + k, none⟩ = some (.int .i64 x)) (by kernel_rfl) (xkv) (fun hS0 => ?_)
                  refine wpAnyH_take (i := 0) (oi := { dst := some 207, op := Op.move (Operand.tmp 18), type := 98, pos := "outright.go:85", after := #[], guard := none }) (v := ?_) rfl (by kernel_rfl) (by kernel_rfl) (by kernel_rfl) (fun _ _ _ h => h) (Or.inl ⟨by rfl, ?_⟩) hS0 ?_
                  rotate_left
                  · intro X hX
                    obtain x0 := hX
                    go_simp
                    try with_reducible rfl
                  simp only [Act.put, List.setIfInBounds_toArray, List.set_cons_zero, List.set_cons_succ, Array.toArray_toList]
                  refine wpAnyH_take (i := 1) (oi := { dst := some 208, op := Op.move (Operand.tmp 7), type := 25, pos := "outright.go:85", after := #[], guard := none }) (v := ?_) rfl (by kernel_rfl) (by kernel_rfl) (by kernel_rfl) (fun _ _ _ h => h) (Or.inl ⟨by rfl, ?_⟩) hS0 ?_
                  rotate_left
                  · intro X hX
                    obtain x0 := hX
                    go_simp
                    try with_reducible rfl
                  simp only [Act.put, List.setIfInBounds_toArray, List.set_cons_zero, List.set_cons_succ, Array.toArray_toList]
                  refine wpAnyH_take (i := 2) (oi := { dst := some 209, op := Op.move (Operand.tmp 17), type := 3, pos := "outright.go:85", after := #[], guard := none }) (v := ?_) rfl (by kernel_rfl) (by kernel_rfl) (by kernel_rfl) (fun _ _ _ h => h) (Or.inl ⟨by rfl, ?_⟩) hS0 ?_
                  rotate_left
                  · intro X hX
                    obtain x0 := hX
                    go_simp
                    try with_reducible rfl
                  simp only [Act.put, List.setIfInBounds_toArray, List.set_cons_zero, List.set_cons_succ, Array.toArray_toList]
                  refine wpAnyH_take (i := 3) (oi := { dst := some 210, op := Op.indexAddr 25 (Operand.tmp 208) (Operand.tmp 209), type := 0, pos := "outright.go:85", after := #[{ on := 1, ground := Ground.data }, { on := 2, ground := Ground.data }], guard := none }) (v := ?_) rfl (by kernel_rfl) (by kernel_rfl) (by kernel_rfl) (fun _ _ _ h => h) (Or.inl ⟨by rfl, ?_⟩) hS0 ?_
                  rotate_left
                  · intro X hX
                    obtain x0 := hX
                    go_simp
                    try with_reducible rfl
                  simp only [Act.put, List.setIfInBounds_toArray, List.set_cons_zero, List.set_cons_succ, Array.toArray_toList]
                  refine wpAnyH_take (i := 4) (oi := { dst := some 211, op := Op.load 3 (Operand.tmp 210), type := 3, pos := "outright.go:85", after := #[{ on := 3, ground := Ground.data }], guard := none }) (v := ?_) rfl (by kernel_rfl) (by kernel_rfl) (by kernel_rfl) (fun _ _ _ h => h) (Or.inl ⟨by rfl, ?_⟩) hS0 ?_
                  rotate_left
                  · intro X hX
                    obtain x0 := hX
                    go_simp
                    try with_reducible rfl
                  simp only [Act.put, List.setIfInBounds_toArray, List.set_cons_zero, List.set_cons_succ, Array.toArray_toList]
                  refine wpAnyH_take (i := 5) (oi := { dst := some 212, op := Op.move (Operand.tmp 19), type := 3, pos := "outright.go:85", after := #[], guard := none }) (v := ?_) rfl (by kernel_rfl) (by kernel_rfl) (by kernel_rfl) (fun _ _ _ h => h) (Or.inl ⟨by rfl, ?_⟩) hS0 ?_
                  rotate_left
                  · intro X hX
                    obtain x0 := hX
                    go_simp
                    try with_reducible rfl
                  simp only [Act.put, List.setIfInBounds_toArray, List.set_cons_zero, List.set_cons_succ, Array.toArray_toList]
                  refine wpAnyH_take (i := 6) (oi := { dst := some 213, op := Op.binOp BinOp.quo 3 (Operand.tmp 212) (Operand.const (Value.int IntKind.i64 4)) 3, type := 3, pos := "outright.go:85", after := #[{ on := 5, ground := Ground.data }], guard := none }) (v := ?_) rfl (by kernel_rfl) (by kernel_rfl) (by kernel_rfl) (fun _ _ _ h => h) (Or.inl ⟨by rfl, ?_⟩) hS0 ?_
                  rotate_left
                  · intro X hX
                    obtain x0 := hX
                    go_simp
                    try with_reducible rfl
                  simp only [Act.put, List.setIfInBounds_toArray, List.set_cons_zero, List.set_cons_succ, Array.toArray_toList]
                  refine wpAnyH_take (i := 7) (oi := { dst := some 214, op := Op.move (Operand.tmp 20), type := 3, pos := "outright.go:85", after := #[], guard := none }) (v := ?_) rfl (by kernel_rfl) (by kernel_rfl) (by kernel_rfl) (fun _ _ _ h => h) (Or.inl ⟨by rfl, ?_⟩) hS0 ?_
                  rotate_left
                  · intro X hX
                    obtain x0 := hX
                    go_simp
                    try with_reducible rfl
                  simp only [Act.put, List.setIfInBounds_toArray, List.set_cons_zero, List.set_cons_succ, Array.toArray_toList]
                  refine wpAnyH_take (i := 8) (oi := { dst := some 215, op := Op.binOp BinOp.mul 3 (Operand.const (Value.int IntKind.i64 2)) (Operand.tmp 214) 3, type := 3, pos := "outright.go:85", after := #[{ on := 7, ground := Ground.data }], guard := none }) (v := ?_) rfl (by kernel_rfl) (by kernel_rfl) (by kernel_rfl) (fun _ _ _ h => h) (Or.inl ⟨by rfl, ?_⟩) hS0 ?_
                  rotate_left
                  · intro X hX
                    obtain x0 := hX
                    go_simp
                    try with_reducible rfl
                  simp only [Act.put, List.setIfInBounds_toArray, List.set_cons_zero, List.set_cons_succ, Array.toArray_toList]
                  refine wpAnyH_take (i := 9) (oi := { dst := some 216, op := Op.binOp BinOp.add 3 (Operand.tmp 215) (Operand.const (Value.int IntKind.i64 1)) 3, type := 3, pos := "outright.go:85", after := #[{ on := 8, ground := Ground.data }], guard := none }) (v := ?_) rfl (by kernel_rfl) (by kernel_rfl) (by kernel_rfl) (fun _ _ _ h => h) (Or.inl ⟨by rfl, ?_⟩) hS0 ?_
                  rotate_left
                  · intro X hX
                    obtain x0 := hX
                    go_simp
                    try with_reducible rfl
                  simp only [Act.put, List.setIfInBounds_toArray, List.set_cons_zero, List.set_cons_succ, Array.toArray_toList]
                  refine wpAnyH_take (i := 10) (oi := { dst := some 217, op := Op.binOp BinOp.rem 3 (Operand.tmp 213) (Operand.tmp 216) 3, type := 3, pos := "outright.go:85", after := #[{ on := 6, ground := Ground.data }, { on := 9, ground := Ground.data }], guard := none }) (v := ?_) rfl (by kernel_rfl) (by kernel_rfl) (by kernel_rfl) (fun _ _ _ h => h) (Or.inl ⟨by rfl, ?_⟩) hS0 ?_
                  rotate_left
                  · intro X hX
                    obtain x0 := hX
                    go_simp
                    try with_reducible rfl
                  simp only [Act.put, List.setIfInBounds_toArray, List.set_cons_zero, List.set_cons_succ, Array.toArray_toList]
                  refine wpAnyH_take (i := 11) (oi := { dst := some 218, op := Op.binOp BinOp.add 3 (Operand.tmp 211) (Operand.tmp 217) 3, type := 3, pos := "outright.go:85", after := #[{ on := 4, ground := Ground.data }, { on := 10, ground := Ground.data }], guard := none }) (v := ?_) rfl (by kernel_rfl) (by kernel_rfl) (by kernel_rfl) (fun _ _ _ h => h) (Or.inl ⟨by rfl, ?_⟩) hS0 ?_
                  rotate_left
                  · intro X hX
                    obtain x0 := hX
                    go_simp
                    try with_reducible rfl
                  simp only [Act.put, List.setIfInBounds_toArray, List.set_cons_zero, List.set_cons_succ, Array.toArray_toList]
                  refine wpAnyH_take (i := 12) (oi := { dst := some 219, op := Op.move (Operand.tmp 20), type := 3, pos := "outright.go:85", after := #[], guard := none }) (v := ?_) rfl (by kernel_rfl) (by kernel_rfl) (by kernel_rfl) (fun _ _ _ h => h) (Or.inl ⟨by rfl, ?_⟩) hS0 ?_
                  rotate_left
                  · intro X hX
                    obtain x0 := hX
                    go_simp
                    try with_reducible rfl
                  simp only [Act.put, List.setIfInBounds_toArray, List.set_cons_zero, List.set_cons_succ, Array.toArray_toList]
                  refine wpAnyH_take (i := 13) (oi := { dst := some 220, op := Op.binOp BinOp.sub 3 (Operand.tmp 218) (Operand.tmp 219) 3, type := 3, pos := "outright.go:85", after := #[{ on := 11, ground := Ground.data }, { on := 12, ground := Ground.data }], guard := none }) (v := ?_) rfl (by kernel_rfl) (by kernel_rfl) (by kernel_rfl) (fun _ _ _ h => h) (Or.inl ⟨by rfl, ?_⟩) hS0 ?_
                  rotate_left
                  · intro X hX
                    obtain x0 := hX
                    go_simp
                    try with_reducible rfl
                  simp only [Act.put, List.setIfInBounds_toArray, List.set_cons_zero, List.set_cons_succ, Array.toArray_toList]
                  refine wpAnyH_take (i := 14) (oi := { dst := some 221, op := Op.call { callee := Callee.builtin Builtin.min, args := #[Operand.const (Value.int IntKind.i64 40), Operand.tmp 220], argTypes := #[3, 3] }, type := 3, pos := "outright.go:85", after := #[{ on := 13, ground := Ground.data }], guard := none }) (v := ?_) rfl (by kernel_rfl) (by kernel_rfl) (by kernel_rfl) (fun _ _ _ h => h) (Or.inl ⟨by rfl, ?_⟩) hS0 ?_
                  rotate_left
                  · intro X hX
                    obtain x0 := hX
                    go_simp
                    try with_reducible rfl
                  simp only [Act.put, List.setIfInBounds_toArray, List.set_cons_zero, List.set_cons_succ, Array.toArray_toList]
                  refine wpAnyH_take (i := 15) (oi := { dst := some 222, op := Op.call { callee := Callee.builtin Builtin.max, args := #[Operand.const (Value.int IntKind.i64 0), Operand.tmp 221], argTypes := #[3, 3] }, type := 3, pos := "outright.go:85", after := #[{ on := 14, ground := Ground.data }], guard := none }) (v := ?_) rfl (by kernel_rfl) (by kernel_rfl) (by kernel_rfl) (fun _ _ _ h => h) (Or.inl ⟨by rfl, ?_⟩) hS0 ?_
                  rotate_left
                  · intro X hX
                    obtain x0 := hX
                    go_simp
                    try with_reducible rfl
                  simp only [Act.put, List.setIfInBounds_toArray, List.set_cons_zero, List.set_cons_succ, Array.toArray_toList]
                  refine wpAnyH_take (i := 16) (oi := { dst := some 223, op := Op.nilCheck (Operand.tmp 207), type := 0, pos := "outright.go:85", after := #[{ on := 0, ground := Ground.data }, { on := 0, ground := Ground.phase }, { on := 1, ground := Ground.phase }, { on := 2, ground := Ground.phase }, { on := 3, ground := Ground.phase }, { on := 4, ground := Ground.phase }, { on := 5, ground := Ground.phase }, { on := 6, ground := Ground.phase }, { on := 7, ground := Ground.phase }, { on := 8, ground := Ground.phase }, { on := 9, ground := Ground.phase }, { on := 10, ground := Ground.phase }, { on := 11, ground := Ground.phase }, { on := 12, ground := Ground.phase }, { on := 13, ground := Ground.phase }, { on := 14, ground := Ground.phase }, { on := 15, ground := Ground.phase }], guard := none }) (v := ?_) rfl (by kernel_rfl) (by kernel_rfl) (by kernel_rfl) (fun _ _ _ h => h) (Or.inl ⟨by rfl, ?_⟩) hS0 ?_
                  rotate_left
                  · intro X hX
                    obtain x0 := hX
                    go_simp
                    try with_reducible rfl
                  simp only [Act.put, List.setIfInBounds_toArray, List.set_cons_zero, List.set_cons_succ, Array.toArray_toList]
                  refine wpAnyH_take (i := 17) (oi := { dst := some 224, op := Op.fieldAddr 71 (Operand.tmp 223) 2, type := 0, pos := "outright.go:85", after := #[{ on := 16, ground := Ground.data }, { on := 0, ground := Ground.phase }, { on := 1, ground := Ground.phase }, { on := 2, ground := Ground.phase }, { on := 3, ground := Ground.phase }, { on := 4, ground := Ground.phase }, { on := 5, ground := Ground.phase }, { on := 6, ground := Ground.phase }, { on := 7, ground := Ground.phase }, { on := 8, ground := Ground.phase }, { on := 9, ground := Ground.phase }, { on := 10, ground := Ground.phase }, { on := 11, ground := Ground.phase }, { on := 12, ground := Ground.phase }, { on := 13, ground := Ground.phase }, { on := 14, ground := Ground.phase }, { on := 15, ground := Ground.phase }], guard := none }) (v := ?_) rfl (by kernel_rfl) (by kernel_rfl) (by kernel_rfl) (fun _ _ _ h => h) (Or.inl ⟨by rfl, ?_⟩) hS0 ?_
                  rotate_left
                  · intro X hX
                    obtain x0 := hX
                    go_simp
                    try with_reducible rfl
                  simp only [Act.put, List.setIfInBounds_toArray, List.set_cons_zero, List.set_cons_succ, Array.toArray_toList]
                  refine wpAnyH_ready (rs := [18]) (by kernel_rfl) (by simp) (AllReadyH.cons (o := { dst := none, op := Op.store 3 (Operand.tmp 224) (Operand.tmp 222), type := 0, pos := "outright.go:85", after := #[{ on := 17, ground := Ground.data }, { on := 15, ground := Ground.data }, { on := 0, ground := Ground.phase }, { on := 1, ground := Ground.phase }, { on := 2, ground := Ground.phase }, { on := 3, ground := Ground.phase }, { on := 4, ground := Ground.phase }, { on := 5, ground := Ground.phase }, { on := 6, ground := Ground.phase }, { on := 7, ground := Ground.phase }, { on := 8, ground := Ground.phase }, { on := 9, ground := Ground.phase }, { on := 10, ground := Ground.phase }, { on := 11, ground := Ground.phase }, { on := 12, ground := Ground.phase }, { on := 13, ground := Ground.phase }, { on := 14, ground := Ground.phase }, { on := 15, ground := Ground.phase }], guard := none }) rfl (fun K hK => ?_) AllReadyH.nil)
                  go_simp
                  rw [clamp_eq]
                  refine hK.out _ _ (((World.cell?_of_block (a := ⟨bx, ox + k, none⟩) (Below.heap_setCell _ _ _ _ hbg)).trans xkv)) (fun hS1 => ?_)
                  clear hS0 hK K
                  refine wpAnyH_done (by kernel_rfl) ?_ _
                  clear hS1
                  have HRO := Lib.hid (read_ok (t := l4[k].t) (c := l4[k].c) he.1 G0 hx01 (by rw [hWd]; exact m0) : ReadOk err ⟨l4[k].t, l4[k].c, max 0 (min 40 (x + m - err * G)), G⟩ x)
                  rw [hWd] at HRO
                  obtain ⟨RR, hRR⟩ : ∃ RR, max 0 (min 40 (x + m - Wd)) = RR := ⟨_, rfl⟩
                  rw [hRR] at HRO ⊢
                  have HROWw := Lib.hid (HROWv.out.put hkl5 (f := 2) (by omega) RR)
                  have ho2 : ∀ j, j ≠ g1 → ((wv.setCell ⟨g1, k * 4 + 2, none⟩ (.int .i64 RR)).drew).heap[j]? = wv.heap[j]? := fun j hj => Below.heap_setCell _ _ _ _ hj
                  have HNETw := Lib.hid ((ho2 Bn (by omega)).trans HNETv.out)
                  have HTRw := Lib.hid (HTRv.out.kept (row := some g1) (w' := (wv.setCell ⟨g1, k * 4 + 2, none⟩ (.int .i64 RR)).drew) ⟨rfl, rfl, rfl, by simp, fun j _ hj => ho2 j (fun e => hj (by rw [e]))⟩ (row_not_ang HTRv.out HROWv.out))
                  have HBEw := Lib.hid ((HBEv.out.setCell (p := ⟨g1, k * 4 + 2, none⟩) (by show w0.heap.size ≤ g1; omega) (.int .i64 RR)).drew)
                  clear v1 v2' v3 v4 v5 v6 v7 v8 p1 p2 hRR hWd hG hD hm b2 f2 xkv ho2 HROWv HNETv HTRv HBEv
                  go_wp2_with fail
                  go_roundw
                  case rel =>
                    refine ⟨k + 1, by omega, by omega, by go_num, _, ?_, HNETw.out, HROWw.out, HTRw.out, HBEw.out, fun j h h0 => ?_, fun j h hj => ?_⟩
                    · simp [HL4.out]
                    · obtain ⟨h4, e⟩ := set_read hkl4 G RR hkl5 j h
                      rw [e]
                      by_cases ej : j = k
                      · rw [if_pos ej]; subst ej; exact HTC.out j hkl4 hkl
                      · rw [if_neg ej]; exact HTC.out j h4 h0
                    · obtain ⟨h4, e⟩ := set_read hkl4 G RR hkl5 j h
                      rw [e]
                      by_cases ej : j = k
                      · rw [if_pos ej, ej, fnOf_at hxl, HX.out]; exact HRO.out
                      · rw [if_neg ej]; exact HRD.out j h4 (by omega)
                  case measure => simp [intOf]; omega
                · have k2 : decide ((k : Int) < 12) = false := decide_eq_false (by omega)
                  have HFINE := Lib.hid (fun i (hi : i < l4.length) (h : i < 12) => HRD.out i hi (by omega))
                  have hcl := closed_ok (err := err) (HI5.out.same HL4.out HTC.out) hTT hCC (by omega) (by rw [HL4.out]; exact hlp) (by rw [HL4.out]; exact hl13) HFINE.out
                  have HCL := Lib.hid hcl
                  have nR := (HBE.out.block R (by omega)).trans HRES.out
                  have lR := (Array.getElem?_eq_some_iff.1 nR).1
                  have r0 : wr.cell? ⟨R, 0, none⟩ = some (.slice none 0 0) := by simp [World.cell?, nR]
                  have r1 : wr.cell? ⟨R, 1, none⟩ = some (.int .i64 0) := by simp [World.cell?, nR]
                  have r2 : wr.cell? ⟨R, 2, none⟩ = some (.int .i64 0) := by simp [World.cell?, nR]
                  have r3 : wr.frozen? ⟨R, 0, none⟩ = false := by simp [World.frozen?, nR]
                  have r4 : wr.frozen? ⟨R, 1, none⟩ = false := by simp [World.frozen?, nR]
                  have r5 : wr.frozen? ⟨R, 2, none⟩ = false := by simp [World.frozen?, nR]
                  have x1 : wr.cell? ⟨Bn, 1, none⟩ = some (.int .i64 (t : Int)) := by have := HNET.out; simp [World.cell?, this]
                  have x2 : wr.cell? ⟨Bn, 2, none⟩ = some (.int .i64 (c : Int)) := by have := HNET.out; simp [World.cell?, this]
                  have NR := Lib.hid nR
                  clear hcl nR
                  go_wp2_with fail
                  have hout : (((wr.setCell ⟨R, 0, none⟩ (.slice (some ⟨g1, 0, none⟩) l1.length cap1)).setCell ⟨R, 1, none⟩ (.int .i64 (t : Int))).setCell ⟨R, 2, none⟩ (.int .i64 (c : Int))).heap[R]? = some (.cells #[.slice (some ⟨g1, 0, none⟩) l1.length cap1, .int .i64 (t : Int), .int .i64 (c : Int)] 24 (0, 0)) := by have := NR.out; simp [World.setCell, Array.getElem?_modify, this]
                  have hoo : ∀ j, j ≠ R → (((wr.setCell ⟨R, 0, none⟩ (.slice (some ⟨g1, 0, none⟩) l1.length cap1)).setCell ⟨R, 1, none⟩ (.int .i64 (t : Int))).setCell ⟨R, 2, none⟩ (.int .i64 (c : Int))).heap[j]? = wr.heap[j]? := fun j hj => (Below.heap_setCell _ _ _ _ hj).trans ((Below.heap_setCell _ _ _ _ hj).trans (Below.heap_setCell _ _ _ _ hj))
                  have hbb := (((HWX.out _ HBE.out).setCell (p := ⟨R, 0, none⟩) (by show w.heap.size ≤ R; omega) (.slice (some ⟨g1, 0, none⟩) l1.length cap1)).setCell (p := ⟨R, 1, none⟩) (by show w.heap.size ≤ R; omega) (.int .i64 (t : Int))).setCell (p := ⟨R, 2, none⟩) (by show w.heap.size ≤ R; omega) (.int .i64 (c : Int))
                  have hzz : (((wr.setCell ⟨R, 0, none⟩ (.slice (some ⟨g1, 0, none⟩) l1.length cap1)).setCell ⟨R, 1, none⟩ (.int .i64 (t : Int))).setCell ⟨R, 2, none⟩ (.int .i64 (c : Int))).heap.size = wr.heap.size := by simp
                  have hoss : (((wr.setCell ⟨R, 0, none⟩ (.slice (some ⟨g1, 0, none⟩) l1.length cap1)).setCell ⟨R, 1, none⟩ (.int .i64 (t : Int))).setCell ⟨R, 2, none⟩ (.int .i64 (c : Int))).os = wr.os ∧ (((wr.setCell ⟨R, 0, none⟩ (.slice (some ⟨g1, 0, none⟩) l1.length cap1)).setCell ⟨R, 1, none⟩ (.int .i64 (t : Int))).setCell ⟨R, 2, none⟩ (.int .i64 (c : Int))).tape = wr.tape ∧ (((wr.setCell ⟨R, 0, none⟩ (.slice (some ⟨g1, 0, none⟩) l1.length cap1)).setCell ⟨R, 1, none⟩ (.int .i64 (t : Int))).setCell ⟨R, 2, none⟩ (.int .i64 (c : Int))).output = wr.output := ⟨rfl, rfl, rfl⟩
                  generalize ((wr.setCell ⟨R, 0, none⟩ (.slice (some ⟨g1, 0, none⟩) l1.length cap1)).setCell ⟨R, 1, none⟩ (.int .i64 (t : Int))).setCell ⟨R, 2, none⟩ (.int .i64 (c : Int)) = wF at hout hoo hbb hzz hoss ⊢
                  have q0 : wF.cell? ⟨R, 0, none⟩ = some (.slice (some ⟨g1, 0, none⟩) l1.length cap1) := by simp [World.cell?, hout]
                  have q1 : wF.cell? ⟨R, 1, none⟩ = some (.int .i64 (t : Int)) := by simp [World.cell?, hout]
                  have q2 : wF.cell? ⟨R, 2, none⟩ = some (.int .i64 (c : Int)) := by simp [World.cell?, hout]
                  have htF := IntsAt.of_own (HTR.out.kept (row := some R) (w' := wF) ⟨hoss.1, hoss.2.1, hoss.2.2, by omega, fun j _ hj => hoo j (fun e => hj (by rw [e]))⟩ (by
                    cases hv : ((.slice At xs1.length ct) : Value).ownBlock with
                    | none => exact .inl rfl
                    | some j => right; intro e; have := HTR.out.lt j hv; cases e; omega))
                  have haF := (HROW.out.of_block (hoo g1 (by omega))).angs
                  refine bodyPost_ret (v := .tuple #[.agg #[.slice (some ⟨g1, 0, none⟩) l1.length cap1, .int .i64 (t : Int), .int .i64 (c : Int)], (.slice At xs1.length ct)]) (by simp [results, Try.results45, go_sem, q0, q1, q2]) rfl ?_
                  exact ⟨hbb, some ⟨g1, 0, none⟩, cap1, t, c, (.slice At xs1.length ct), l4, xs1, by rw [HL4.out], haF, htF, ⟨_, rfl⟩, HCL.out⟩
              · have k1 : decide ((k : Int) < (l1.length : Int)) = false := decide_eq_false (by omega)
                have HFINE := Lib.hid (fun i (hi : i < l4.length) (h : i < 12) => HRD.out i hi (by have := HL4.out; omega))
                have hcl := closed_ok (err := err) (HI5.out.same HL4.out HTC.out) hTT hCC (by omega) (by rw [HL4.out]; exact hlp) (by rw [HL4.out]; exact hl13) HFINE.out
                have HCL := Lib.hid hcl
                have nR := (HBE.out.block R (by omega)).trans HRES.out
                have lR := (Array.getElem?_eq_some_iff.1 nR).1
                have r0 : wr.cell? ⟨R, 0, none⟩ = some (.slice none 0 0) := by simp [World.cell?, nR]
                have r1 : wr.cell? ⟨R, 1, none⟩ = some (.int .i64 0) := by simp [World.cell?, nR]
                have r2 : wr.cell? ⟨R, 2, none⟩ = some (.int .i64 0) := by simp [World.cell?, nR]
                have r3 : wr.frozen? ⟨R, 0, none⟩ = false := by simp [World.frozen?, nR]
                have r4 : wr.frozen? ⟨R, 1, none⟩ = false := by simp [World.frozen?, nR]
                have r5 : wr.frozen? ⟨R, 2, none⟩ = false := by simp [World.frozen?, nR]
                have x1 : wr.cell? ⟨Bn, 1, none⟩ = some (.int .i64 (t : Int)) := by have := HNET.out; simp [World.cell?, this]
                have x2 : wr.cell? ⟨Bn, 2, none⟩ = some (.int .i64 (c : Int)) := by have := HNET.out; simp [World.cell?, this]
                have NR := Lib.hid nR
                clear hcl nR
                go_wp2_with fail
                have hout : (((wr.setCell ⟨R, 0, none⟩ (.slice (some ⟨g1, 0, none⟩) l1.length cap1)).setCell ⟨R, 1, none⟩ (.int .i64 (t : Int))).setCell ⟨R, 2, none⟩ (.int .i64 (c : Int))).heap[R]? = some (.cells #[.slice (some ⟨g1, 0, none⟩) l1.length cap1, .int .i64 (t : Int), .int .i64 (c : Int)] 24 (0, 0)) := by have := NR.out; simp [World.setCell, Array.getElem?_modify, this]
                have hoo : ∀ j, j ≠ R → (((wr.setCell ⟨R, 0, none⟩ (.slice (some ⟨g1, 0, none⟩) l1.length cap1)).setCell ⟨R, 1, none⟩ (.int .i64 (t : Int))).setCell ⟨R, 2, none⟩ (.int .i64 (c : Int))).heap[j]? = wr.heap[j]? := fun j hj => (Below.heap_setCell _ _ _ _ hj).trans ((Below.heap_setCell _ _ _ _ hj).trans (Below.heap_setCell _ _ _ _ hj))
                have hbb := (((HWX.out _ HBE.out).setCell (p := ⟨R, 0, none⟩) (by show w.heap.size ≤ R; omega) (.slice (some ⟨g1, 0, none⟩) l1.length cap1)).setCell (p := ⟨R, 1, none⟩) (by show w.heap.size ≤ R; omega) (.int .i64 (t : Int))).setCell (p := ⟨R, 2, none⟩) (by show w.heap.size ≤ R; omega) (.int .i64 (c : Int))
                have hzz : (((wr.setCell ⟨R, 0, none⟩ (.slice (some ⟨g1, 0, none⟩) l1.length cap1)).setCell ⟨R, 1, none⟩ (.int .i64 (t : Int))).setCell ⟨R, 2, none⟩ (.int .i64 (c : Int))).heap.size = wr.heap.size := by simp
                have hoss : (((wr.setCell ⟨R, 0, none⟩ (.slice (some ⟨g1, 0, none⟩) l1.length cap1)).setCell ⟨R, 1, none⟩ (.int .i64 (t : Int))).setCell ⟨R, 2, none⟩ (.int .i64 (c : Int))).os = wr.os ∧ (((wr.setCell ⟨R, 0, none⟩ (.slice (some ⟨g1, 0, none⟩) l1.length cap1)).setCell ⟨R, 1, none⟩ (.int .i64 (t : Int))).setCell ⟨R, 2, none⟩ (.int .i64 (c : Int))).tape = wr.tape ∧ (((wr.setCell ⟨R, 0, none⟩ (.slice (some ⟨g1, 0, none⟩) l1.length cap1)).setCell ⟨R, 1, none⟩ (.int .i64 (t : Int))).setCell ⟨R, 2, none⟩ (.int .i64 (c : Int))).output = wr.output := ⟨rfl, rfl, rfl⟩
                generalize ((wr.setCell ⟨R, 0, none⟩ (.slice (some ⟨g1, 0, none⟩) l1.length cap1)).setCell ⟨R, 1, none⟩ (.int .i64 (t : Int))).setCell ⟨R, 2, none⟩ (.int .i64 (c : Int)) = wF at hout hoo hbb hzz hoss ⊢
                have q0 : wF.cell? ⟨R, 0, none⟩ = some (.slice (some ⟨g1, 0, none⟩) l1.length cap1) := by simp [World.cell?, hout]
                have q1 : wF.cell? ⟨R, 1, none⟩ = some (.int .i64 (t : Int)) := by simp [World.cell?, hout]
                have q2 : wF.cell? ⟨R, 2, none⟩ = some (.int .i64 (c : Int)) := by simp [World.cell?, hout]
                have htF := IntsAt.of_own (HTR.out.kept (row := some R) (w' := wF) ⟨hoss.1, hoss.2.1, hoss.2.2, by omega, fun j _ hj => hoo j (fun e => hj (by rw [e]))⟩ (by
                  cases hv : ((.slice At xs1.length ct) : Value).ownBlock with
                  | none => exact .inl rfl
                  | some j => right; intro e; have := HTR.out.lt j hv; cases e; omega))
                have haF := (HROW.out.of_block (hoo g1 (by omega))).angs
                refine bodyPost_ret (v := .tuple #[.agg #[.slice (some ⟨g1, 0, none⟩) l1.length cap1, .int .i64 (t : Int), .int .i64 (c : Int)], (.slice At xs1.length ct)]) (by simp [results, Try.results45, go_sem, q0, q1, q2]) rfl ?_
                exact ⟨hbb, some ⟨g1, 0, none⟩, cap1, t, c, (.slice At xs1.length ct), l4, xs1, by rw [HL4.out], haF, htF, ⟨_, rfl⟩, HCL.out⟩
          · have b0 : ((l.length : Int) == 0) = false := by simpa using hl0
            by_cases h12 : l.length < 12
            · have b1 : decide ((l.length : Int) < 12) = true := decide_eq_true (by omega)
              go_wp2_with fail
              refine (hword.out wr hbw 9 (by omega)).mono ?_
              rintro e wx ⟨q9, rfl, q90, q91, rfl⟩
              by_cases h4 : q9 % 4 = 0
              · have b2 : (q9 % 4 == 0) = true := by simpa using h4
                have HL := hl
                have hl12 : l.length ≤ 12 := by omega
                have lm := HM.out.lt
                have hxl : xs.length ≤ 1000000 := by have := HI.out.len; omega
                have hll : l.length ≤ 1000000 := by omega
                have hbase : Bc + 1 ≤ (wr.alloc (.cells #[.int .i64 (-1), .int .i64 (-1), .int .i64 0, .int .i64 0] 71)).heap.size := by simp; omega
                go_wp2_with (at_builtin; refine wpList_app_ang rfl _ _ rfl (Bc + 1) (.slice As l.length cas) l ⟨(-1), (-1), 0, 0⟩ wr.heap.size rfl (HM.out.angs.alloc _) rfl (Go.heap_alloc_new wr _) hll hbase ?_)
                intro g1 cap1 v1 o1 gr1 lt1
                have tr1 := Lib.hid ((HM.out.tr.alloc (.cells #[.int .i64 (-1), .int .i64 (-1), .int .i64 0, .int .i64 0] 71)).kept gr1 (apart_types (HM.out.tr.alloc (.cells #[.int .i64 (-1), .int .i64 (-1), .int .i64 0, .int .i64 0] 71)) (HM.out.angs.alloc (.cells #[.int .i64 (-1), .int .i64 (-1), .int .i64 0, .int .i64 0] 71)) (by decide)))
                have O1 := Lib.hid o1
                have G1 := Lib.hid gr1
                have hv1 := gr1.size
                have hbase2 : Bc + 1 ≤ v1.heap.size := by omega
                clear o1 gr1
                go_wp2_with fail
                refine (hword.out v1 (HWX.out _ (HM.out.below1 G1.out)) 10 (by omega)).mono ?_
                rintro e wx ⟨qa, rfl, qa0, qa1, rfl⟩
                obtain ⟨X, hX⟩ : ∃ X, qa % 41 = X := ⟨_, rfl⟩
                have X0 : 0 ≤ X ∧ X ≤ 40 := by omega
                have hbase3 : Bc + 1 ≤ (v1.alloc (.cells #[.int .i64 (X)] 3)).heap.size := by simp; omega
                go_wp2_with (at_builtin; refine wpList_app_int rfl _ _ rfl (Bc + 1) u7 xs (X) v1.heap.size rfl (tr1.out.alloc _) rfl (Go.heap_alloc_new v1 _) hxl hbase3 ?_)
                intro g2 cap2 v2 o2 gr2 lt2
                obtain ⟨hnet, hpush⟩ := HM.out.push O1.out G1.out o2 gr2
                have z0 : v2.cell? ⟨Bn, 0, none⟩ = some (.slice As l.length cas) := by simp [World.cell?, hnet]
                have z1 : v2.frozen? ⟨Bn, 0, none⟩ = false := by simp [World.frozen?, hnet]
                have HP := Lib.hid hpush
                clear o2 gr2 hnet hpush tr1 O1 G1 lm hxl hll hbase hbase2 hbase3 hv1 lt1 lt2
                go_upto_region 32 with fail
                obtain ⟨l1, hl1⟩ : ∃ l1, l ++ [⟨-1, -1, 0, 0⟩] = l1 := ⟨_, rfl⟩
                obtain ⟨xs1, hx1⟩ : ∃ xs1, xs ++ [X] = xs1 := ⟨_, rfl⟩
                have HI5 := Lib.hid (HI.out.push (S' := S3 (t : Int) (c : Int) cs) (r := 0) (g := 0) (x := X) (by omega : (-1 : Int) ≤ -1 ∧ (-1 : Int) < (t : Int)) (by omega : (-1 : Int) ≤ -1 ∧ (-1 : Int) < (c : Int)) (by omega) (fun v h0 h1 => S_alone _ v h1))
                have hl1' : l1.length = l.length + 1 := by rw [← hl1]; simp
                have hx1' : xs1.length = xs.length + 1 := by rw [← hx1]; simp
                rw [hl1, hx1] at HP HI5
                generalize v2.setCell ⟨Bn, 0, none⟩ (.slice (some ⟨g1, 0, none⟩) (l.length + 1) cap1) = wP at HP ⊢
                obtain ⟨vt1, hvt1⟩ : ∃ v, Value.slice (some ⟨g2, 0, none⟩) (xs.length + 1) cap2 = v := ⟨_, rfl⟩
                rw [hvt1, ← hl1'] at HP
                rw [hvt1]
                have hl13 : l1.length ≤ 13 := by omega
                have hlp : 0 < l1.length := by omega
                clear z0 z1 hl1 hx1 x0 x1 x2 x3 hl1' hx1' HL hl hl12 hX hvt1
                have hrow : AngRow wP g1 l1 ∧ Bc + 1 ≤ g1 := by
                  obtain ⟨g', cap', he', h1, h2⟩ := AngRow.of_own hlp HP.out.angs
                  cases he'
                  exact ⟨h2, h1⟩
                have HROW := Lib.hid hrow.1
                have hgB := hrow.2
                have HNET := Lib.hid HP.out.net
                have HTR := Lib.hid HP.out.tr
                have HBE := Lib.hid HP.out.below
                have hb0 := HP.out.b0
                have hb1 := HP.out.b1
                clear hrow
                have hTT : 0 ≤ (t : Int) ∧ (t : Int) ≤ 3 := T0
                have hCC : 0 ≤ (c : Int) ∧ (c : Int) ≤ 2 := C0
                have hll := HP.out.below
                go_wp2_with fail
                obtain ⟨wo4, rfl⟩ : ∃ wo : World, wo = wP := ⟨_, rfl⟩
                clear hll
                obtain ⟨At, ct, hvt, _⟩ := IntsAt.of_own HTR.out
                subst hvt
                go_loopw [17] (Cl4 w0 Bn Bc (t : Int) (c : Int) err g1 cap1 (.slice At xs1.length ct) l1 xs1) (fun i _ => 12 - (intOf i).toNat)
                case atStart => exact ⟨0, by omega, by omega, rfl, l1, rfl, HNET.out, HROW.out, HTR.out, HBE.out, fun j h h0 => ⟨rfl, rfl⟩, fun j h hj => by omega⟩
                case round =>
                  clear HNET HROW HTR HBE
                  obtain ⟨k, hk1, hk2, rfl, l4, hl4, hnet, hrow, htr, hbe, htc, hrd⟩ := hrel
                  have HNET := Lib.hid hnet
                  have HROW := Lib.hid hrow
                  have HTR := Lib.hid htr
                  have HBE := Lib.hid hbe
                  have HTC := Lib.hid htc
                  have HRD := Lib.hid hrd
                  have HL4 := Lib.hid hl4
                  have x0 : wr.cell? ⟨Bn, 0, none⟩ = some (.slice (some ⟨g1, 0, none⟩) l1.length cap1) := by simp [World.cell?, hnet]
                  have lBn := (Array.getElem?_eq_some_iff.1 hnet).1
                  have lg := hrow.lt
                  have lw4 := hbe.size
                  clear hnet hrow htr hbe htc hrd hl4
                  by_cases hkl : k < l1.length
                  · have k1 : decide ((k : Int) < (l1.length : Int)) = true := decide_eq_true (by omega)
                    by_cases hk12 : k < 12
                    · have k2 : decide ((k : Int) < 12) = true := decide_eq_true (by omega)
                      have hkl4 : k < l4.length := by rw [HL4.out]; exact hkl
                      obtain ⟨a0, a1, a2, a3⟩ := HROW.out.cells hkl4
                      have f2 := HROW.out.frozen (k * 4 + 2)
                      have f3 := HROW.out.frozen (k * 4 + 3)
                      have hwd := hword.out wr (HWX.out _ HBE.out) (k + 11) (by omega)
                      rw [show ((k + 11 : Nat) : Int) = (k : Int) + 11 by omega] at hwd
                      have HWD := Lib.hid hwd
                      have hxl : k < xs1.length := by have := HI5.out.len; omega
                      have hx01 := HI5.out.x01 xs1[k] (List.getElem_mem hxl)
                      have htv := IntsAt.of_own HTR.out
                      obtain ⟨At', ct', hvt, htc2⟩ := htv
                      obtain ⟨rfl, rfl⟩ : At = At' ∧ ct = ct' := by simpa using hvt
                      clear hvt
                      obtain ⟨bx, ox, rfl, hxc⟩ := htc2.resolve_left (fun h => by rw [h] at hxl; simp at hxl)
                      have xk := hxc k hxl
                      obtain ⟨x, hx⟩ : ∃ x, xs1[k] = x := ⟨_, rfl⟩
                      rw [hx] at xk hx01
                      have HX := Lib.hid hx
                      have i1 : (0 : Int) ≤ (k : Int) := by omega
                      have i2 : (k : Int) < (l1.length : Int) := by omega
                      have i3 : (k : Int) < (xs1.length : Int) := by omega
                      have hbg : bx ≠ g1 := by
                        rcases row_not_ang HTR.out HROW.out with h | h
                        · simp [Value.ownBlock] at h
                        · simpa [Value.ownBlock] using h
                      have hgb : g1 ≠ bx := fun h => hbg h.symm
                      have hgn : g1 ≠ Bn := by omega
                      have hgn' : Bn ≠ g1 := by omega
                      clear hwd hxc hx
                      go_wp2_with fail
                      refine HWD.out.mono ?_
                      rintro e wx ⟨q, rfl, q0, q1, rfl⟩
                      clear HWD
                      obtain ⟨G, hG⟩ : ∃ G, 1 + q % 3 = G := ⟨_, rfl⟩
                      have G0 : 1 ≤ G ∧ G ≤ 3 := by omega
                      have w0' : 0 ≤ err * G := Int.mul_nonneg he.1 (by omega)
                      have w1' : err * G ≤ 5 * 3 := Int.mul_le_mul he.2 G0.2 (by omega) (by omega)
                      obtain ⟨Wd, hWd⟩ : ∃ Wd, err * G = Wd := ⟨_, rfl⟩
                      rw [hWd] at w0' w1'
                      obtain ⟨D, hD⟩ : ∃ D, q / 4 = D := ⟨_, rfl⟩
                      have D0 : 0 ≤ D := by omega
                      obtain ⟨m, hm⟩ : ∃ m, D % (2 * Wd + 1) = m := ⟨_, rfl⟩
                      have m0 : 0 ≤ m ∧ m ≤ 2 * Wd := by
                        have h1 := Int.emod_nonneg D (show 2 * Wd + 1 ≠ 0 by omega)
                        have h2 := Int.emod_lt_of_pos D (show 0 < 2 * Wd + 1 by omega)
                        omega
                      go_upto_region 39 with fail
                      have HROWv := Lib.hid (HROW.out.put hkl4 (f := 3) (by omega) G)
                      have ho3 : ∀ j, j ≠ g1 → (wr.setCell ⟨g1, k * 4 + 3, none⟩ (.int .i64 G)).heap[j]? = wr.heap[j]? := fun j hj => Below.heap_setCell _ _ _ _ hj
                      have xkv : (wr.setCell ⟨g1, k * 4 + 3, none⟩ (.int .i64 G)).cell? ⟨bx, ox + k, none⟩ = some (.int .i64 x) := (World.cell?_of_block (a := ⟨bx, ox + k, none⟩) (ho3 bx hbg)).trans xk
                      have HNETv := Lib.hid ((ho3 Bn (by omega)).trans HNET.out)
                      have HTRv := Lib.hid (HTR.out.kept (row := some g1) (w' := wr.setCell ⟨g1, k * 4 + 3, none⟩ (.int .i64 G)) ⟨rfl, rfl, rfl, by simp, fun j _ hj => ho3 j (fun e => hj (by rw [e]))⟩ (row_not_ang HTR.out HROW.out))
                      have HBEv := Lib.hid (HBE.out.setCell (p := ⟨g1, k * 4 + 3, none⟩) (by show w0.heap.size ≤ g1; omega) (.int .i64 G))
                      generalize wr.setCell ⟨g1, k * 4 + 3, none⟩ (.int .i64 G) = wv at HROWv xkv HNETv HTRv HBEv ⊢
                      clear ho3 HNET HTR HBE a0 a1 a2 a3 f2 f3 xk x0
                      have hkl5 : k < (l4.set k (putF l4[k] 3 G)).length := by simpa using hkl4
                      have b2 := (HROWv.out.cells hkl5).2.2.1
                      have f2 := HROWv.out.frozen (k * 4 + 2)
                      have lgv := HROWv.out.lt
                      have v1 : IntKind.i64.wrap (2 * Wd) = 2 * Wd := IntWalk.i64_in _ (by omega)
                      have v2' : IntKind.i64.wrap (2 * Wd + 1) = 2 * Wd + 1 := IntWalk.i64_in _ (by omega)
                      have v3 : IntKind.i64.wrap (x + m) = x + m := IntWalk.i64_in _ (by omega)
                      have v4 : IntKind.i64.wrap (x + m - Wd) = x + m - Wd := IntWalk.i64_in _ (by omega)
                      have v5 : q.tdiv 4 = D := by rw [← hD]; exact Int.tdiv_eq_ediv_of_nonneg q0
                      have v6 : D.tmod (2 * Wd + 1) = m := by rw [← hm]; exact Int.tmod_eq_emod_of_nonneg D0
                      have p1 : (2 * Wd + 1 == 0) = false := by simp; omega
                      have p2 : ¬ (2 * Wd + 1 = 0) := by omega
                      have v7 : IntKind.i64.wrap D = D := IntWalk.i64_in _ (by omega)
                      have v8 : IntKind.i64.wrap m = m := IntWalk.i64_in _ (by omega)
                      refine wp_region_held_drew (S := fun X => X.cell? ⟨bx, ox + k, none⟩ = some (.int .i64 x)) (by kernel_rfl) (xkv) (fun hS0 => ?_)
                      refine wpAnyH_take (i := 0) (oi := { dst := some 207, op := Op.move (Operand.tmp 18), type := 98, pos := "outright.go:85", after := #[], guard := none }) (v := ?_) rfl (by kernel_rfl) (by kernel_rfl) (by kernel_rfl) (fun _ _ _ h => h) (Or.inl ⟨by rfl, ?_⟩) hS0 ?_
                      rotate_left
                      · intro X hX
                        obtain x0 := hX
                        go_simp
                        try with_reducible rfl
                      simp only [Act.put, List.setIfInBounds_toArray, List.set_cons_zero, List.set_cons_succ, Array.toArray_toList]
                      refine wpAnyH_take (i := 1) (oi := { dst := some 208, op := Op.move (Operand.tmp 7), type := 25, pos := "outright.go:85", after := #[], guard := none }) (v := ?_) rfl (by kernel_rfl) (by kernel_rfl) (by kernel_rfl) (fun _ _ _ h => h) (Or.inl ⟨by rfl, ?_⟩) hS0 ?_
                      rotate_left
                      · intro X hX
                        obtain x0 := hX
                        go_simp
                        try with_reducible rfl
                      simp only [Act.put, List.setIfInBounds_toArray, List.set_cons_zero, List.set_cons_succ, Array.toArray_toList]
                      refine wpAnyH_take (i := 2) (oi := { dst := some 209, op := Op.move (Operand.tmp 17), type := 3, pos := "outright.go:85", after := #[], guard := none }) (v := ?_) rfl (by kernel_rfl) (by kernel_rfl) (by kernel_rfl) (fun _ _ _ h => h) (Or.inl ⟨by rfl, ?_⟩) hS0 ?_
                      rotate_left
                      · intro X hX
                        obtain x0 := hX
                        go_simp
                        try with_reducible rfl
                      simp only [Act.put, List.setIfInBounds_toArray, List.set_cons_zero, List.set_cons_succ, Array.toArray_toList]
                      refine wpAnyH_take (i := 3) (oi := { dst := some 210, op := Op.indexAddr 25 (Operand.tmp 208) (Operand.tmp 209), type := 0, pos := "outright.go:85", after := #[{ on := 1, ground := Ground.data }, { on := 2, ground := Ground.data }], guard := none }) (v := ?_) rfl (by kernel_rfl) (by kernel_rfl) (by kernel_rfl) (fun _ _ _ h => h) (Or.inl ⟨by rfl, ?_⟩) hS0 ?_
                      rotate_left
                      · intro X hX
                        obtain x0 := hX
                        go_simp
                        try with_reducible rfl
                      simp only [Act.put, List.setIfInBounds_toArray, List.set_cons_zero, List.set_cons_succ, Array.toArray_toList]
                      refine wpAnyH_take (i := 4) (oi := { dst := some 211, op := Op.load 3 (Operand.tmp 210), type := 3, pos := "outright.go:85", after := #[{ on := 3, ground := Ground.data }], guard := none }) (v := ?_) rfl (by kernel_rfl) (by kernel_rfl) (by kernel_rfl) (fun _ _ _ h => h) (Or.inl ⟨by rfl, ?_⟩) hS0 ?_
                      rotate_left
                      · intro X hX
                        obtain x0 := hX
                        go_simp
                        try with_reducible rfl
                      simp only [Act.put, List.setIfInBounds_toArray, List.set_cons_zero, List.set_cons_succ, Array.toArray_toList]
                      refine wpAnyH_take (i := 5) (oi := { dst := some 212, op := Op.move (Operand.tmp 19), type := 3, pos := "outright.go:85", after := #[], guard := none }) (v := ?_) rfl (by kernel_rfl) (by kernel_rfl) (by kernel_rfl) (fun _ _ _ h => h) (Or.inl ⟨by rfl, ?_⟩) hS0 ?_
                      rotate_left
                      · intro X hX
                        obtain x0 := hX
                        go_simp
                        try with_reducible rfl
                      simp only [Act.put, List.setIfInBounds_toArray, List.set_cons_zero, List.set_cons_succ, Array.toArray_toList]
                      refine wpAnyH_take (i := 6) (oi := { dst := some 213, op := Op.binOp BinOp.quo 3 (Operand.tmp 212) (Operand.const (Value.int IntKind.i64 4)) 3, type := 3, pos := "outright.go:85", after := #[{ on := 5, ground := Ground.data }], guard := none }) (v := ?_) rfl (by kernel_rfl) (by kernel_rfl) (by kernel_rfl) (fun _ _ _ h => h) (Or.inl ⟨by rfl, ?_⟩) hS0 ?_
                      rotate_left
                      · intro X hX
                        obtain x0 := hX
                        go_simp
                        try with_reducible rfl
                      simp only [Act.put, List.setIfInBounds_toArray, List.set_cons_zero, List.set_cons_succ, Array.toArray_toList]
                      refine wpAnyH_take (i := 7) (oi := { dst := some 214, op := Op.move (Operand.tmp 20), type := 3, pos := "outright.go:85", after := #[], guard := none }) (v := ?_) rfl (by kernel_rfl) (by kernel_rfl) (by kernel_rfl) (fun _ _ _ h => h) (Or.inl ⟨by rfl, ?_⟩) hS0 ?_
                      rotate_left
                      · intro X hX
                        obtain x0 := hX
                        go_simp
                        try with_reducible rfl
                      simp only [Act.put, List.setIfInBounds_toArray, List.set_cons_zero, List.set_cons_succ, Array.toArray_toList]
                      refine wpAnyH_take (i := 8) (oi := { dst := some 215, op := Op.binOp BinOp.mul 3 (Operand.const (Value.int IntKind.i64 2)) (Operand.tmp 214) 3, type := 3, pos := "outright.go:85", after := #[{ on := 7, ground := Ground.data }], guard := none }) (v := ?_) rfl (by kernel_rfl) (by kernel_rfl) (by kernel_rfl) (fun _ _ _ h => h) (Or.inl ⟨by rfl, ?_⟩) hS0 ?_
                      rotate_left
                      · intro X hX
                        obtain x0 := hX
                        go_simp
                        try with_reducible rfl
                      simp only [Act.put, List.setIfInBounds_toArray, List.set_cons_zero, List.set_cons_succ, Array.toArray_toList]
                      refine wpAnyH_take (i := 9) (oi := { dst := some 216, op := Op.binOp BinOp.add 3 (Operand.tmp 215) (Operand.const (Value.int IntKind.i64 1)) 3, type := 3, pos := "outright.go:85", after := #[{ on := 8, ground := Ground.data }], guard := none }) (v := ?_) rfl (by kernel_rfl) (by kernel_rfl) (by kernel_rfl) (fun _ _ _ h => h) (Or.inl ⟨by rfl, ?_⟩) hS0 ?_
                      rotate_left
                      · intro X hX
                        obtain x0 := hX
                        go_simp
                        try with_reducible rfl
                      simp only [Act.put, List.setIfInBounds_toArray, List.set_cons_zero, List.set_cons_succ, Array.toArray_toList]
                      refine wpAnyH_take (i := 10) (oi := { dst := some 217, op := Op.binOp BinOp.rem 3 (Operand.tmp 213) (Operand.tmp 216) 3, type := 3, pos := "outright.go:85", after := #[{ on := 6, ground := Ground.data }, { on := 9, ground := Ground.data }], guard := none }) (v := ?_) rfl (by kernel_rfl) (by kernel_rfl) (by kernel_rfl) (fun _ _ _ h => h) (Or.inl ⟨by rfl, ?_⟩) hS0 ?_
                      rotate_left
                      · intro X hX
                        obtain x0 := hX
                        go_simp
                        try with_reducible rfl
                      simp only [Act.put, List.setIfInBounds_toArray, List.set_cons_zero, List.set_cons_succ, Array.toArray_toList]
                      refine wpAnyH_take (i := 11) (oi := { dst := some 218, op := Op.binOp BinOp.add 3 (Operand.tmp 211) (Operand.tmp 217) 3, type := 3, pos := "outright.go:85", after := #[{ on := 4, ground := Ground.data }, { on := 10, ground := Ground.data }], guard := none }) (v := ?_) rfl (by kernel_rfl) (by kernel_rfl) (by kernel_rfl) (fun _ _ _ h => h) (Or.inl ⟨by rfl, ?_⟩) hS0 ?_
                      rotate_left
                      · intro X hX
                        obtain x0 := hX
                        go_simp
                        try with_reducible rfl
                      simp only [Act.put, List.setIfInBounds_toArray, List.set_cons_zero, List.set_cons_succ, Array.toArray_toList]
                      refine wpAnyH_take (i := 12) (oi := { dst := some 219, op := Op.move (Operand.tmp 20), type := 3, pos := "outright.go:85", after := #[], guard := none }) (v := ?_) rfl (by kernel_rfl) (by kernel_rfl) (by kernel_rfl) (fun _ _ _ h => h) (Or.inl ⟨by rfl, ?_⟩) hS0 ?_
                      rotate_left
                      · intro X hX
                        obtain x0 := hX
                        go_simp
                        try with_reducible rfl
                      simp only [Act.put, List.setIfInBounds_toArray, List.set_cons_zero, List.set_cons_succ, Array.toArray_toList]
                      refine wpAnyH_take (i := 13) (oi := { dst := some 220, op := Op.binOp BinOp.sub 3 (Operand.tmp 218) (Operand.tmp 219) 3, type := 3, pos := "outright.go:85", after := #[{ on := 11, ground := Ground.data }, { on := 12, ground := Ground.data }], guard := none }) (v := ?_) rfl (by kernel_rfl) (by kernel_rfl) (by kernel_rfl) (fun _ _ _ h => h) (Or.inl ⟨by rfl, ?_⟩) hS0 ?_
                      rotate_left
                      · intro X hX
                        obtain x0 := hX
                        go_simp
                        try with_reducible rfl
                      simp only [Act.put, List.setIfInBounds_toArray, List.set_cons_zero, List.set_cons_succ, Array.toArray_toList]
                      refine wpAnyH_take (i := 14) (oi := { dst := some 221, op := Op.call { callee := Callee.builtin Builtin.min, args := #[Operand.const (Value.int IntKind.i64 40), Operand.tmp 220], argTypes := #[3, 3] }, type := 3, pos := "outright.go:85", after := #[{ on := 13, ground := Ground.data }], guard := none }) (v := ?_) rfl (by kernel_rfl) (by kernel_rfl) (by kernel_rfl) (fun _ _ _ h => h) (Or.inl ⟨by rfl, ?_⟩) hS0 ?_
                      rotate_left
                      · intro X hX
                        obtain x0 := hX
                        go_simp
                        try with_reducible rfl
                      simp only [Act.put, List.setIfInBounds_toArray, List.set_cons_zero, List.set_cons_succ, Array.toArray_toList]
                      refine wpAnyH_take (i := 15) (oi := { dst := some 222, op := Op.call { callee := Callee.builtin Builtin.max, args := #[Operand.const (Value.int IntKind.i64 0), Operand.tmp 221], argTypes := #[3, 3] }, type := 3, pos := "outright.go:85", after := #[{ on := 14, ground := Ground.data }], guard := none }) (v := ?_) rfl (by kernel_rfl) (by kernel_rfl) (by kernel_rfl) (fun _ _ _ h => h) (Or.inl ⟨by rfl, ?_⟩) hS0 ?_
                      rotate_left
                      · intro X hX
                        obtain x0 := hX
                        go_simp
                        try with_reducible rfl
                      simp only [Act.put, List.setIfInBounds_toArray, List.set_cons_zero, List.set_cons_succ, Array.toArray_toList]
                      refine wpAnyH_take (i := 16) (oi := { dst := some 223, op := Op.nilCheck (Operand.tmp 207), type := 0, pos := "outright.go:85", after := #[{ on := 0, ground := Ground.data }, { on := 0, ground := Ground.phase }, { on := 1, ground := Ground.phase }, { on := 2, ground := Ground.phase }, { on := 3, ground := Ground.phase }, { on := 4, ground := Ground.phase }, { on := 5, ground := Ground.phase }, { on := 6, ground := Ground.phase }, { on := 7, ground := Ground.phase }, { on := 8, ground := Ground.phase }, { on := 9, ground := Ground.phase }, { on := 10, ground := Ground.phase }, { on := 11, ground := Ground.phase }, { on := 12, ground := Ground.phase }, { on := 13, ground := Ground.phase }, { on := 14, ground := Ground.phase }, { on := 15, ground := Ground.phase }], guard := none }) (v := ?_) rfl (by kernel_rfl) (by kernel_rfl) (by kernel_rfl) (fun _ _ _ h => h) (Or.inl ⟨by rfl, ?_⟩) hS0 ?_
                      rotate_left
                      · intro X hX
                        obtain x0 := hX
                        go_simp
                        try with_reducible rfl
                      simp only [Act.put, List.setIfInBounds_toArray, List.set_cons_zero, List.set_cons_succ, Array.toArray_toList]
                      refine wpAnyH_take (i := 17) (oi := { dst := some 224, op := Op.fieldAddr 71 (Operand.tmp 223) 2, type := 0, pos := "outright.go:85", after := #[{ on := 16, ground := Ground.data }, { on := 0, ground := Ground.phase }, { on := 1, ground := Ground.phase }, { on := 2, ground := Ground.phase }, { on := 3, ground := Ground.phase }, { on := 4, ground := Ground.phase }, { on := 5, ground := Ground.phase }, { on := 6, ground := Ground.phase }, { on := 7, ground := Ground.phase }, { on := 8, ground := Ground.phase }, { on := 9, ground := Ground.phase }, { on := 10, ground := Ground.phase }, { on := 11, ground := Ground.phase }, { on := 12, ground := Ground.phase }, { on := 13, ground := Ground.phase }, { on := 14, ground := Ground.phase }, { on := 15, ground := Ground.phase }], guard := none }) (v := ?_) rfl (by kernel_rfl) (by kernel_rfl) (by kernel_rfl) (fun _ _ _ h => h) (Or.inl ⟨by rfl, ?_⟩) hS0 ?_
                      rotate_left
                      · intro X hX
                        obtain x0 := hX
                        go_simp
                        try with_reducible rfl
                      simp only [Act.put, List.setIfInBounds_toArray, List.set_cons_zero, List.set_cons_succ, Array.toArray_toList]
                      refine wpAnyH_ready (rs := [18]) (by kernel_rfl) (by simp) (AllReadyH.cons (o := { dst := none, op := Op.store 3 (Operand.tmp 224) (Operand.tmp 222), type := 0, pos := "outright.go:85", after := #[{ on := 17, ground := Ground.data }, { on := 15, ground := Ground.data }, { on := 0, ground := Ground.phase }, { on := 1, ground := Ground.phase }, { on := 2, ground := Ground.phase }, { on := 3, ground := Ground.phase }, { on := 4, ground := Ground.phase }, { on := 5, ground := Ground.phase }, { on := 6, ground := Ground.phase }, { on := 7, ground := Ground.phase }, { on := 8, ground := Ground.phase }, { on := 9, ground := Ground.phase }, { on := 10, ground := Ground.phase }, { on := 11, ground := Ground.phase }, { on := 12, ground := Ground.phase }, { on := 13, ground := Ground.phase }, { on := 14, ground := Ground.phase }, { on := 15, ground := Ground.phase }], guard := none }) rfl (fun K hK => ?_) AllReadyH.nil)
                      go_simp
                      rw [clamp_eq]
                      refine hK.out _ _ (((World.cell?_of_block (a := ⟨bx, ox + k, none⟩) (Below.heap_setCell _ _ _ _ hbg)).trans xkv)) (fun hS1 => ?_)
                      clear hS0 hK K
                      refine wpAnyH_done (by kernel_rfl) ?_ _
                      clear hS1
                      have HRO := Lib.hid (read_ok (t := l4[k].t) (c := l4[k].c) he.1 G0 hx01 (by rw [hWd]; exact m0) : ReadOk err ⟨l4[k].t, l4[k].c, max 0 (min 40 (x + m - err * G)), G⟩ x)
                      rw [hWd] at HRO
                      obtain ⟨RR, hRR⟩ : ∃ RR, max 0 (min 40 (x + m - Wd)) = RR := ⟨_, rfl⟩
                      rw [hRR] at HRO ⊢
                      have HROWw := Lib.hid (HROWv.out.put hkl5 (f := 2) (by omega) RR)
                      have ho2 : ∀ j, j ≠ g1 → ((wv.setCell ⟨g1, k * 4 + 2, none⟩ (.int .i64 RR)).drew).heap[j]? = wv.heap[j]? := fun j hj => Below.heap_setCell _ _ _ _ hj
                      have HNETw := Lib.hid ((ho2 Bn (by omega)).trans HNETv.out)
                      have HTRw := Lib.hid (HTRv.out.kept (row := some g1) (w' := (wv.setCell ⟨g1, k * 4 + 2, none⟩ (.int .i64 RR)).drew) ⟨rfl, rfl, rfl, by simp, fun j _ hj => ho2 j (fun e => hj (by rw [e]))⟩ (row_not_ang HTRv.out HROWv.out))
                      have HBEw := Lib.hid ((HBEv.out.setCell (p := ⟨g1, k * 4 + 2, none⟩) (by show w0.heap.size ≤ g1; omega) (.int .i64 RR)).drew)
                      clear v1 v2' v3 v4 v5 v6 v7 v8 p1 p2 hRR hWd hG hD hm b2 f2 xkv ho2 HROWv HNETv HTRv HBEv
                      go_wp2_with fail
                      go_roundw
                      case rel =>
                        refine ⟨k + 1, by omega, by omega, by go_num, _, ?_, HNETw.out, HROWw.out, HTRw.out, HBEw.out, fun j h h0 => ?_, fun j h hj => ?_⟩
                        · simp [HL4.out]
                        · obtain ⟨h4, e⟩ := set_read hkl4 G RR hkl5 j h
                          rw [e]
                          by_cases ej : j = k
                          · rw [if_pos ej]; subst ej; exact HTC.out j hkl4 hkl
                          · rw [if_neg ej]; exact HTC.out j h4 h0
                        · obtain ⟨h4, e⟩ := set_read hkl4 G RR hkl5 j h
                          rw [e]
                          by_cases ej : j = k
                          · rw [if_pos ej, ej, fnOf_at hxl, HX.out]; exact HRO.out
                          · rw [if_neg ej]; exact HRD.out j h4 (by omega)
                      case measure => simp [intOf]; omega
                    · have k2 : decide ((k : Int) < 12) = false := decide_eq_false (by omega)
                      have HFINE := Lib.hid (fun i (hi : i < l4.length) (h : i < 12) => HRD.out i hi (by omega))
                      have hcl := closed_ok (err := err) (HI5.out.same HL4.out HTC.out) hTT hCC (by omega) (by rw [HL4.out]; exact hlp) (by rw [HL4.out]; exact hl13) HFINE.out
                      have HCL := Lib.hid hcl
                      have nR := (HBE.out.block R (by omega)).trans HRES.out
                      have lR := (Array.getElem?_eq_some_iff.1 nR).1
                      have r0 : wr.cell? ⟨R, 0, none⟩ = some (.slice none 0 0) := by simp [World.cell?, nR]
                      have r1 : wr.cell? ⟨R, 1, none⟩ = some (.int .i64 0) := by simp [World.cell?, nR]
                      have r2 : wr.cell? ⟨R, 2, none⟩ = some (.int .i64 0) := by simp [World.cell?, nR]
                      have r3 : wr.frozen? ⟨R, 0, none⟩ = false := by simp [World.frozen?, nR]
                      have r4 : wr.frozen? ⟨R, 1, none⟩ = false := by simp [World.frozen?, nR]
                      have r5 : wr.frozen? ⟨R, 2, none⟩ = false := by simp [World.frozen?, nR]
                      have x1 : wr.cell? ⟨Bn, 1, none⟩ = some (.int .i64 (t : Int)) := by have := HNET.out; simp [World.cell?, this]
                      have x2 : wr.cell? ⟨Bn, 2, none⟩ = some (.int .i64 (c : Int)) := by have := HNET.out; simp [World.cell?, this]
                      have NR := Lib.hid nR
                      clear hcl nR
                      go_wp2_with fail
                      have hout : (((wr.setCell ⟨R, 0, none⟩ (.slice (some ⟨g1, 0, none⟩) l1.length cap1)).setCell ⟨R, 1, none⟩ (.int .i64 (t : Int))).setCell ⟨R, 2, none⟩ (.int .i64 (c : Int))).heap[R]? = some (.cells #[.slice (some ⟨g1, 0, none⟩) l1.length cap1, .int .i64 (t : Int), .int .i64 (c : Int)] 24 (0, 0)) := by have := NR.out; simp [World.setCell, Array.getElem?_modify, this]
                      have hoo : ∀ j, j ≠ R → (((wr.setCell ⟨R, 0, none⟩ (.slice (some ⟨g1, 0, none⟩) l1.length cap1)).setCell ⟨R, 1, none⟩ (.int .i64 (t : Int))).setCell ⟨R, 2, none⟩ (.int .i64 (c : Int))).heap[j]? = wr.heap[j]? := fun j hj => (Below.heap_setCell _ _ _ _ hj).trans ((Below.heap_setCell _ _ _ _ hj).trans (Below.heap_setCell _ _ _ _ hj))
                      have hbb := (((HWX.out _ HBE.out).setCell (p := ⟨R, 0, none⟩) (by show w.heap.size ≤ R; omega) (.slice (some ⟨g1, 0, none⟩) l1.length cap1)).setCell (p := ⟨R, 1, none⟩) (by show w.heap.size ≤ R; omega) (.int .i64 (t : Int))).setCell (p := ⟨R, 2, none⟩) (by show w.heap.size ≤ R; omega) (.int .i64 (c : Int))
                      have hzz : (((wr.setCell ⟨R, 0, none⟩ (.slice (some ⟨g1, 0, none⟩) l1.length cap1)).setCell ⟨R, 1, none⟩ (.int .i64 (t : Int))).setCell ⟨R, 2, none⟩ (.int .i64 (c : Int))).heap.size = wr.heap.size := by simp
                      have hoss : (((wr.setCell ⟨R, 0, none⟩ (.slice (some ⟨g1, 0, none⟩) l1.length cap1)).setCell ⟨R, 1, none⟩ (.int .i64 (t : Int))).setCell ⟨R, 2, none⟩ (.int .i64 (c : Int))).os = wr.os ∧ (((wr.setCell ⟨R, 0, none⟩ (.slice (some ⟨g1, 0, none⟩) l1.length cap1)).setCell ⟨R, 1, none⟩ (.int .i64 (t : Int))).setCell ⟨R, 2, none⟩ (.int .i64 (c : Int))).tape = wr.tape ∧ (((wr.setCell ⟨R, 0, none⟩ (.slice (some ⟨g1, 0, none⟩) l1.length cap1)).setCell ⟨R, 1, none⟩ (.int .i64 (t : Int))).setCell ⟨R, 2, none⟩ (.int .i64 (c : Int))).output = wr.output := ⟨rfl, rfl, rfl⟩
                      generalize ((wr.setCell ⟨R, 0, none⟩ (.slice (some ⟨g1, 0, none⟩) l1.length cap1)).setCell ⟨R, 1, none⟩ (.int .i64 (t : Int))).setCell ⟨R, 2, none⟩ (.int .i64 (c : Int)) = wF at hout hoo hbb hzz hoss ⊢
                      have q0 : wF.cell? ⟨R, 0, none⟩ = some (.slice (some ⟨g1, 0, none⟩) l1.length cap1) := by simp [World.cell?, hout]
                      have q1 : wF.cell? ⟨R, 1, none⟩ = some (.int .i64 (t : Int)) := by simp [World.cell?, hout]
                      have q2 : wF.cell? ⟨R, 2, none⟩ = some (.int .i64 (c : Int)) := by simp [World.cell?, hout]
                      have htF := IntsAt.of_own (HTR.out.kept (row := some R) (w' := wF) ⟨hoss.1, hoss.2.1, hoss.2.2, by omega, fun j _ hj => hoo j (fun e => hj (by rw [e]))⟩ (by
                        cases hv : ((.slice At xs1.length ct) : Value).ownBlock with
                        | none => exact .inl rfl
                        | some j => right; intro e; have := HTR.out.lt j hv; cases e; omega))
                      have haF := (HROW.out.of_block (hoo g1 (by omega))).angs
                      refine bodyPost_ret (v := .tuple #[.agg #[.slice (some ⟨g1, 0, none⟩) l1.length cap1, .int .i64 (t : Int), .int .i64 (c : Int)], (.slice At xs1.length ct)]) (by simp [results, Try.results45, go_sem, q0, q1, q2]) rfl ?_
                      exact ⟨hbb, some ⟨g1, 0, none⟩, cap1, t, c, (.slice At xs1.length ct), l4, xs1, by rw [HL4.out], haF, htF, ⟨_, rfl⟩, HCL.out⟩
                  · have k1 : decide ((k : Int) < (l1.length : Int)) = false := decide_eq_false (by omega)
                    have HFINE := Lib.hid (fun i (hi : i < l4.length) (h : i < 12) => HRD.out i hi (by have := HL4.out; omega))
                    have hcl := closed_ok (err := err) (HI5.out.same HL4.out HTC.out) hTT hCC (by omega) (by rw [HL4.out]; exact hlp) (by rw [HL4.out]; exact hl13) HFINE.out
                    have HCL := Lib.hid hcl
                    have nR := (HBE.out.block R (by omega)).trans HRES.out
                    have lR := (Array.getElem?_eq_some_iff.1 nR).1
                    have r0 : wr.cell? ⟨R, 0, none⟩ = some (.slice none 0 0) := by simp [World.cell?, nR]
                    have r1 : wr.cell? ⟨R, 1, none⟩ = some (.int .i64 0) := by simp [World.cell?, nR]
                    have r2 : wr.cell? ⟨R, 2, none⟩ = some (.int .i64 0) := by simp [World.cell?, nR]
                    have r3 : wr.frozen? ⟨R, 0, none⟩ = false := by simp [World.frozen?, nR]
                    have r4 : wr.frozen? ⟨R, 1, none⟩ = false := by simp [World.frozen?, nR]
                    have r5 : wr.frozen? ⟨R, 2, none⟩ = false := by simp [World.frozen?, nR]
                    have x1 : wr.cell? ⟨Bn, 1, none⟩ = some (.int .i64 (t : Int)) := by have := HNET.out; simp [World.cell?, this]
                    have x2 : wr.cell? ⟨Bn, 2, none⟩ = some (.int .i64 (c : Int)) := by have := HNET.out; simp [World.cell?, this]
                    have NR := Lib.hid nR
                    clear hcl nR
                    go_wp2_with fail
                    have hout : (((wr.setCell ⟨R, 0, none⟩ (.slice (some ⟨g1, 0, none⟩) l1.length cap1)).setCell ⟨R, 1, none⟩ (.int .i64 (t : Int))).setCell ⟨R, 2, none⟩ (.int .i64 (c : Int))).heap[R]? = some (.cells #[.slice (some ⟨g1, 0, none⟩) l1.length cap1, .int .i64 (t : Int), .int .i64 (c : Int)] 24 (0, 0)) := by have := NR.out; simp [World.setCell, Array.getElem?_modify, this]
                    have hoo : ∀ j, j ≠ R → (((wr.setCell ⟨R, 0, none⟩ (.slice (some ⟨g1, 0, none⟩) l1.length cap1)).setCell ⟨R, 1, none⟩ (.int .i64 (t : Int))).setCell ⟨R, 2, none⟩ (.int .i64 (c : Int))).heap[j]? = wr.heap[j]? := fun j hj => (Below.heap_setCell _ _ _ _ hj).trans ((Below.heap_setCell _ _ _ _ hj).trans (Below.heap_setCell _ _ _ _ hj))
                    have hbb := (((HWX.out _ HBE.out).setCell (p := ⟨R, 0, none⟩) (by show w.heap.size ≤ R; omega) (.slice (some ⟨g1, 0, none⟩) l1.length cap1)).setCell (p := ⟨R, 1, none⟩) (by show w.heap.size ≤ R; omega) (.int .i64 (t : Int))).setCell (p := ⟨R, 2, none⟩) (by show w.heap.size ≤ R; omega) (.int .i64 (c : Int))
                    have hzz : (((wr.setCell ⟨R, 0, none⟩ (.slice (some ⟨g1, 0, none⟩) l1.length cap1)).setCell ⟨R, 1, none⟩ (.int .i64 (t : Int))).setCell ⟨R, 2, none⟩ (.int .i64 (c : Int))).heap.size = wr.heap.size := by simp
                    have hoss : (((wr.setCell ⟨R, 0, none⟩ (.slice (some ⟨g1, 0, none⟩) l1.length cap1)).setCell ⟨R, 1, none⟩ (.int .i64 (t : Int))).setCell ⟨R, 2, none⟩ (.int .i64 (c : Int))).os = wr.os ∧ (((wr.setCell ⟨R, 0, none⟩ (.slice (some ⟨g1, 0, none⟩) l1.length cap1)).setCell ⟨R, 1, none⟩ (.int .i64 (t : Int))).setCell ⟨R, 2, none⟩ (.int .i64 (c : Int))).tape = wr.tape ∧ (((wr.setCell ⟨R, 0, none⟩ (.slice (some ⟨g1, 0, none⟩) l1.length cap1)).setCell ⟨R, 1, none⟩ (.int .i64 (t : Int))).setCell ⟨R, 2, none⟩ (.int .i64 (c : Int))).output = wr.output := ⟨rfl, rfl, rfl⟩
                    generalize ((wr.setCell ⟨R, 0, none⟩ (.slice (some ⟨g1, 0, none⟩) l1.length cap1)).setCell ⟨R, 1, none⟩ (.int .i64 (t : Int))).setCell ⟨R, 2, none⟩ (.int .i64 (c : Int)) = wF at hout hoo hbb hzz hoss ⊢
                    have q0 : wF.cell? ⟨R, 0, none⟩ = some (.slice (some ⟨g1, 0, none⟩) l1.length cap1) := by simp [World.cell?, hout]
                    have q1 : wF.cell? ⟨R, 1, none⟩ = some (.int .i64 (t : Int)) := by simp [World.cell?, hout]
                    have q2 : wF.cell? ⟨R, 2, none⟩ = some (.int .i64 (c : Int)) := by simp [World.cell?, hout]
                    have htF := IntsAt.of_own (HTR.out.kept (row := some R) (w' := wF) ⟨hoss.1, hoss.2.1, hoss.2.2, by omega, fun j _ hj => hoo j (fun e => hj (by rw [e]))⟩ (by
                      cases hv : ((.slice At xs1.length ct) : Value).ownBlock with
                      | none => exact .inl rfl
                      | some j => right; intro e; have := HTR.out.lt j hv; cases e; omega))
                    have haF := (HROW.out.of_block (hoo g1 (by omega))).angs
                    refine bodyPost_ret (v := .tuple #[.agg #[.slice (some ⟨g1, 0, none⟩) l1.length cap1, .int .i64 (t : Int), .int .i64 (c : Int)], (.slice At xs1.length ct)]) (by simp [results, Try.results45, go_sem, q0, q1, q2]) rfl ?_
                    exact ⟨hbb, some ⟨g1, 0, none⟩, cap1, t, c, (.slice At xs1.length ct), l4, xs1, by rw [HL4.out], haF, htF, ⟨_, rfl⟩, HCL.out⟩
              · have b2 : (q9 % 4 == 0) = false := by simpa using h4
                obtain ⟨g1, hg1⟩ := hsome (by omega)
                subst hg1
                have HI5 := HI
                have HP := HM
                have hl13 : l.length ≤ 13 := by omega
                have hlp : 0 < l.length := by omega
                go_upto_region 32 with fail
                clear x0 x1 x2 x3 h12 b1
                have hrow : AngRow wr g1 l ∧ Bc + 1 ≤ g1 := by
                  obtain ⟨g', cap', he', h1, h2⟩ := AngRow.of_own hlp HP.out.angs
                  cases he'
                  exact ⟨h2, h1⟩
                have HROW := Lib.hid hrow.1
                have hgB := hrow.2
                have HNET := Lib.hid HP.out.net
                have HTR := Lib.hid HP.out.tr
                have HBE := Lib.hid HP.out.below
                have hb0 := HP.out.b0
                have hb1 := HP.out.b1
                clear hrow
                have hTT : 0 ≤ (t : Int) ∧ (t : Int) ≤ 3 := T0
                have hCC : 0 ≤ (c : Int) ∧ (c : Int) ≤ 2 := C0
                have hll := HP.out.below
                go_wp2_with fail
                obtain ⟨wo4, rfl⟩ : ∃ wo : World, wo = wr := ⟨_, rfl⟩
                clear hll
                obtain ⟨At, ct, hvt, _⟩ := IntsAt.of_own HTR.out
                subst hvt
                go_loopw [17] (Cl4 w0 Bn Bc (t : Int) (c : Int) err g1 cas (.slice At xs.length ct) l xs) (fun i _ => 12 - (intOf i).toNat)
                case atStart => exact ⟨0, by omega, by omega, rfl, l, rfl, HNET.out, HROW.out, HTR.out, HBE.out, fun j h h0 => ⟨rfl, rfl⟩, fun j h hj => by omega⟩
                case round =>
                  clear HNET HROW HTR HBE
                  obtain ⟨k, hk1, hk2, rfl, l4, hl4, hnet, hrow, htr, hbe, htc, hrd⟩ := hrel
                  have HNET := Lib.hid hnet
                  have HROW := Lib.hid hrow
                  have HTR := Lib.hid htr
                  have HBE := Lib.hid hbe
                  have HTC := Lib.hid htc
                  have HRD := Lib.hid hrd
                  have HL4 := Lib.hid hl4
                  have x0 : wr.cell? ⟨Bn, 0, none⟩ = some (.slice (some ⟨g1, 0, none⟩) l.length cas) := by simp [World.cell?, hnet]
                  have lBn := (Array.getElem?_eq_some_iff.1 hnet).1
                  have lg := hrow.lt
                  have lw4 := hbe.size
                  clear hnet hrow htr hbe htc hrd hl4
                  by_cases hkl : k < l.length
                  · have k1 : decide ((k : Int) < (l.length : Int)) = true := decide_eq_true (by omega)
                    by_cases hk12 : k < 12
                    · have k2 : decide ((k : Int) < 12) = true := decide_eq_true (by omega)
                      have hkl4 : k < l4.length := by rw [HL4.out]; exact hkl
                      obtain ⟨a0, a1, a2, a3⟩ := HROW.out.cells hkl4
                      have f2 := HROW.out.frozen (k * 4 + 2)
                      have f3 := HROW.out.frozen (k * 4 + 3)
                      have hwd := hword.out wr (HWX.out _ HBE.out) (k + 11) (by omega)
                      rw [show ((k + 11 : Nat) : Int) = (k : Int) + 11 by omega] at hwd
                      have HWD := Lib.hid hwd
                      have hxl : k < xs.length := by have := HI5.out.len; omega
                      have hx01 := HI5.out.x01 xs[k] (List.getElem_mem hxl)
                      have htv := IntsAt.of_own HTR.out
                      obtain ⟨At', ct', hvt, htc2⟩ := htv
                      obtain ⟨rfl, rfl⟩ : At = At' ∧ ct = ct' := by simpa using hvt
                      clear hvt
                      obtain ⟨bx, ox, rfl, hxc⟩ := htc2.resolve_left (fun h => by rw [h] at hxl; simp at hxl)
                      have xk := hxc k hxl
                      obtain ⟨x, hx⟩ : ∃ x, xs[k] = x := ⟨_, rfl⟩
                      rw [hx] at xk hx01
                      have HX := Lib.hid hx
                      have i1 : (0 : Int) ≤ (k : Int) := by omega
                      have i2 : (k : Int) < (l.length : Int) := by omega
                      have i3 : (k : Int) < (xs.length : Int) := by omega
                      have hbg : bx ≠ g1 := by
                        rcases row_not_ang HTR.out HROW.out with h | h
                        · simp [Value.ownBlock] at h
                        · simpa [Value.ownBlock] using h
                      have hgb : g1 ≠ bx := fun h => hbg h.symm
                      have hgn : g1 ≠ Bn := by omega
                      have hgn' : Bn ≠ g1 := by omega
                      clear hwd hxc hx
                      go_wp2_with fail
                      refine HWD.out.mono ?_
                      rintro e wx ⟨q, rfl, q0, q1, rfl⟩
                      clear HWD
                      obtain ⟨G, hG⟩ : ∃ G, 1 + q % 3 = G := ⟨_, rfl⟩
                      have G0 : 1 ≤ G ∧ G ≤ 3 := by omega
                      have w0' : 0 ≤ err * G := Int.mul_nonneg he.1 (by omega)
                      have w1' : err * G ≤ 5 * 3 := Int.mul_le_mul he.2 G0.2 (by omega) (by omega)
                      obtain ⟨Wd, hWd⟩ : ∃ Wd, err * G = Wd := ⟨_, rfl⟩
                      rw [hWd] at w0' w1'
                      obtain ⟨D, hD⟩ : ∃ D, q / 4 = D := ⟨_, rfl⟩
                      have D0 : 0 ≤ D := by omega
                      obtain ⟨m, hm⟩ : ∃ m, D % (2 * Wd + 1) = m := ⟨_, rfl⟩
                      have m0 : 0 ≤ m ∧ m ≤ 2 * Wd := by
                        have h1 := Int.emod_nonneg D (show 2 * Wd + 1 ≠ 0 by omega)
                        have h2 := Int.emod_lt_of_pos D (show 0 < 2 * Wd + 1 by omega)
                        omega
                      go_upto_region 39 with fail
                      have HROWv := Lib.hid (HROW.out.put hkl4 (f := 3) (by omega) G)
                      have ho3 : ∀ j, j ≠ g1 → (wr.setCell ⟨g1, k * 4 + 3, none⟩ (.int .i64 G)).heap[j]? = wr.heap[j]? := fun j hj => Below.heap_setCell _ _ _ _ hj
                      have xkv : (wr.setCell ⟨g1, k * 4 + 3, none⟩ (.int .i64 G)).cell? ⟨bx, ox + k, none⟩ = some (.int .i64 x) := (World.cell?_of_block (a := ⟨bx, ox + k, none⟩) (ho3 bx hbg)).trans xk
                      have HNETv := Lib.hid ((ho3 Bn (by omega)).trans HNET.out)
                      have HTRv := Lib.hid (HTR.out.kept (row := some g1) (w' := wr.setCell ⟨g1, k * 4 + 3, none⟩ (.int .i64 G)) ⟨rfl, rfl, rfl, by simp, fun j _ hj => ho3 j (fun e => hj (by rw [e]))⟩ (row_not_ang HTR.out HROW.out))
                      have HBEv := Lib.hid (HBE.out.setCell (p := ⟨g1, k * 4 + 3, none⟩) (by show w0.heap.size ≤ g1; omega) (.int .i64 G))
                      generalize wr.setCell ⟨g1, k * 4 + 3, none⟩ (.int .i64 G) = wv at HROWv xkv HNETv HTRv HBEv ⊢
                      clear ho3 HNET HTR HBE a0 a1 a2 a3 f2 f3 xk x0
                      have hkl5 : k < (l4.set k (putF l4[k] 3 G)).length := by simpa using hkl4
                      have b2 := (HROWv.out.cells hkl5).2.2.1
                      have f2 := HROWv.out.frozen (k * 4 + 2)
                      have lgv := HROWv.out.lt
                      have v1 : IntKind.i64.wrap (2 * Wd) = 2 * Wd := IntWalk.i64_in _ (by omega)
                      have v2' : IntKind.i64.wrap (2 * Wd + 1) = 2 * Wd + 1 := IntWalk.i64_in _ (by omega)
                      have v3 : IntKind.i64.wrap (x + m) = x + m := IntWalk.i64_in _ (by omega)
                      have v4 : IntKind.i64.wrap (x + m - Wd) = x + m - Wd := IntWalk.i64_in _ (by omega)
                      have v5 : q.tdiv 4 = D := by rw [← hD]; exact Int.tdiv_eq_ediv_of_nonneg q0
                      have v6 : D.tmod (2 * Wd + 1) = m := by rw [← hm]; exact Int.tmod_eq_emod_of_nonneg D0
                      have p1 : (2 * Wd + 1 == 0) = false := by simp; omega
                      have p2 : ¬ (2 * Wd + 1 = 0) := by omega
                      have v7 : IntKind.i64.wrap D = D := IntWalk.i64_in _ (by omega)
                      have v8 : IntKind.i64.wrap m = m := IntWalk.i64_in _ (by omega)
                      refine wp_region_held_drew (S := fun X => X.cell? ⟨bx, ox + k, none⟩ = some (.int .i64 x)) (by kernel_rfl) (xkv) (fun hS0 => ?_)
                      refine wpAnyH_take (i := 0) (oi := { dst := some 207, op := Op.move (Operand.tmp 18), type := 98, pos := "outright.go:85", after := #[], guard := none }) (v := ?_) rfl (by kernel_rfl) (by kernel_rfl) (by kernel_rfl) (fun _ _ _ h => h) (Or.inl ⟨by rfl, ?_⟩) hS0 ?_
                      rotate_left
                      · intro X hX
                        obtain x0 := hX
                        go_simp
                        try with_reducible rfl
                      simp only [Act.put, List.setIfInBounds_toArray, List.set_cons_zero, List.set_cons_succ, Array.toArray_toList]
                      refine wpAnyH_take (i := 1) (oi := { dst := some 208, op := Op.move (Operand.tmp 7), type := 25, pos := "outright.go:85", after := #[], guard := none }) (v := ?_) rfl (by kernel_rfl) (by kernel_rfl) (by kernel_rfl) (fun _ _ _ h => h) (Or.inl ⟨by rfl, ?_⟩) hS0 ?_
                      rotate_left
                      · intro X hX
                        obtain x0 := hX
                        go_simp
                        try with_reducible rfl
                      simp only [Act.put, List.setIfInBounds_toArray, List.set_cons_zero, List.set_cons_succ, Array.toArray_toList]
                      refine wpAnyH_take (i := 2) (oi := { dst := some 209, op := Op.move (Operand.tmp 17), type := 3, pos := "outright.go:85", after := #[], guard := none }) (v := ?_) rfl (by kernel_rfl) (by kernel_rfl) (by kernel_rfl) (fun _ _ _ h => h) (Or.inl ⟨by rfl, ?_⟩) hS0 ?_
                      rotate_left
                      · intro X hX
                        obtain x0 := hX
                        go_simp
                        try with_reducible rfl
                      simp only [Act.put, List.setIfInBounds_toArray, List.set_cons_zero, List.set_cons_succ, Array.toArray_toList]
                      refine wpAnyH_take (i := 3) (oi := { dst := some 210, op := Op.indexAddr 25 (Operand.tmp 208) (Operand.tmp 209), type := 0, pos := "outright.go:85", after := #[{ on := 1, ground := Ground.data }, { on := 2, ground := Ground.data }], guard := none }) (v := ?_) rfl (by kernel_rfl) (by kernel_rfl) (by kernel_rfl) (fun _ _ _ h => h) (Or.inl ⟨by rfl, ?_⟩) hS0 ?_
                      rotate_left
                      · intro X hX
                        obtain x0 := hX
                        go_simp
                        try with_reducible rfl
                      simp only [Act.put, List.setIfInBounds_toArray, List.set_cons_zero, List.set_cons_succ, Array.toArray_toList]
                      refine wpAnyH_take (i := 4) (oi := { dst := some 211, op := Op.load 3 (Operand.tmp 210), type := 3, pos := "outright.go:85", after := #[{ on := 3, ground := Ground.data }], guard := none }) (v := ?_) rfl (by kernel_rfl) (by kernel_rfl) (by kernel_rfl) (fun _ _ _ h => h) (Or.inl ⟨by rfl, ?_⟩) hS0 ?_
                      rotate_left
                      · intro X hX
                        obtain x0 := hX
                        go_simp
                        try with_reducible rfl
                      simp only [Act.put, List.setIfInBounds_toArray, List.set_cons_zero, List.set_cons_succ, Array.toArray_toList]
                      refine wpAnyH_take (i := 5) (oi := { dst := some 212, op := Op.move (Operand.tmp 19), type := 3, pos := "outright.go:85", after := #[], guard := none }) (v := ?_) rfl (by kernel_rfl) (by kernel_rfl) (by kernel_rfl) (fun _ _ _ h => h) (Or.inl ⟨by rfl, ?_⟩) hS0 ?_
                      rotate_left
                      · intro X hX
                        obtain x0 := hX
                        go_simp
                        try with_reducible rfl
                      simp only [Act.put, List.setIfInBounds_toArray, List.set_cons_zero, List.set_cons_succ, Array.toArray_toList]
                      refine wpAnyH_take (i := 6) (oi := { dst := some 213, op := Op.binOp BinOp.quo 3 (Operand.tmp 212) (Operand.const (Value.int IntKind.i64 4)) 3, type := 3, pos := "outright.go:85", after := #[{ on := 5, ground := Ground.data }], guard := none }) (v := ?_) rfl (by kernel_rfl) (by kernel_rfl) (by kernel_rfl) (fun _ _ _ h => h) (Or.inl ⟨by rfl, ?_⟩) hS0 ?_
                      rotate_left
                      · intro X hX
                        obtain x0 := hX
                        go_simp
                        try with_reducible rfl
                      simp only [Act.put, List.setIfInBounds_toArray, List.set_cons_zero, List.set_cons_succ, Array.toArray_toList]
                      refine wpAnyH_take (i := 7) (oi := { dst := some 214, op := Op.move (Operand.tmp 20), type := 3, pos := "outright.go:85", after := #[], guard := none }) (v := ?_) rfl (by kernel_rfl) (by kernel_rfl) (by kernel_rfl) (fun _ _ _ h => h) (Or.inl ⟨by rfl, ?_⟩) hS0 ?_
                      rotate_left
                      · intro X hX
                        obtain x0 := hX
                        go_simp
                        try with_reducible rfl
                      simp only [Act.put, List.setIfInBounds_toArray, List.set_cons_zero, List.set_cons_succ, Array.toArray_toList]
                      refine wpAnyH_take (i := 8) (oi := { dst := some 215, op := Op.binOp BinOp.mul 3 (Operand.const (Value.int IntKind.i64 2)) (Operand.tmp 214) 3, type := 3, pos := "outright.go:85", after := #[{ on := 7, ground := Ground.data }], guard := none }) (v := ?_) rfl (by kernel_rfl) (by kernel_rfl) (by kernel_rfl) (fun _ _ _ h => h) (Or.inl ⟨by rfl, ?_⟩) hS0 ?_
                      rotate_left
                      · intro X hX
                        obtain x0 := hX
                        go_simp
                        try with_reducible rfl
                      simp only [Act.put, List.setIfInBounds_toArray, List.set_cons_zero, List.set_cons_succ, Array.toArray_toList]
                      refine wpAnyH_take (i := 9) (oi := { dst := some 216, op := Op.binOp BinOp.add 3 (Operand.tmp 215) (Operand.const (Value.int IntKind.i64 1)) 3, type := 3, pos := "outright.go:85", after := #[{ on := 8, ground := Ground.data }], guard := none }) (v := ?_) rfl (by kernel_rfl) (by kernel_rfl) (by kernel_rfl) (fun _ _ _ h => h) (Or.inl ⟨by rfl, ?_⟩) hS0 ?_
                      rotate_left
                      · intro X hX
                        obtain x0 := hX
                        go_simp
                        try with_reducible rfl
                      simp only [Act.put, List.setIfInBounds_toArray, List.set_cons_zero, List.set_cons_succ, Array.toArray_toList]
                      refine wpAnyH_take (i := 10) (oi := { dst := some 217, op := Op.binOp BinOp.rem 3 (Operand.tmp 213) (Operand.tmp 216) 3, type := 3, pos := "outright.go:85", after := #[{ on := 6, ground := Ground.data }, { on := 9, ground := Ground.data }], guard := none }) (v := ?_) rfl (by kernel_rfl) (by kernel_rfl) (by kernel_rfl) (fun _ _ _ h => h) (Or.inl ⟨by rfl, ?_⟩) hS0 ?_
                      rotate_left
                      · intro X hX
                        obtain x0 := hX
                        go_simp
                        try with_reducible rfl
                      simp only [Act.put, List.setIfInBounds_toArray, List.set_cons_zero, List.set_cons_succ, Array.toArray_toList]
                      refine wpAnyH_take (i := 11) (oi := { dst := some 218, op := Op.binOp BinOp.add 3 (Operand.tmp 211) (Operand.tmp 217) 3, type := 3, pos := "outright.go:85", after := #[{ on := 4, ground := Ground.data }, { on := 10, ground := Ground.data }], guard := none }) (v := ?_) rfl (by kernel_rfl) (by kernel_rfl) (by kernel_rfl) (fun _ _ _ h => h) (Or.inl ⟨by rfl, ?_⟩) hS0 ?_
                      rotate_left
                      · intro X hX
                        obtain x0 := hX
                        go_simp
                        try with_reducible rfl
                      simp only [Act.put, List.setIfInBounds_toArray, List.set_cons_zero, List.set_cons_succ, Array.toArray_toList]
                      refine wpAnyH_take (i := 12) (oi := { dst := some 219, op := Op.move (Operand.tmp 20), type := 3, pos := "outright.go:85", after := #[], guard := none }) (v := ?_) rfl (by kernel_rfl) (by kernel_rfl) (by kernel_rfl) (fun _ _ _ h => h) (Or.inl ⟨by rfl, ?_⟩) hS0 ?_
                      rotate_left
                      · intro X hX
                        obtain x0 := hX
                        go_simp
                        try with_reducible rfl
                      simp only [Act.put, List.setIfInBounds_toArray, List.set_cons_zero, List.set_cons_succ, Array.toArray_toList]
                      refine wpAnyH_take (i := 13) (oi := { dst := some 220, op := Op.binOp BinOp.sub 3 (Operand.tmp 218) (Operand.tmp 219) 3, type := 3, pos := "outright.go:85", after := #[{ on := 11, ground := Ground.data }, { on := 12, ground := Ground.data }], guard := none }) (v := ?_) rfl (by kernel_rfl) (by kernel_rfl) (by kernel_rfl) (fun _ _ _ h => h) (Or.inl ⟨by rfl, ?_⟩) hS0 ?_
                      rotate_left
                      · intro X hX
                        obtain x0 := hX
                        go_simp
                        try with_reducible rfl
                      simp only [Act.put, List.setIfInBounds_toArray, List.set_cons_zero, List.set_cons_succ, Array.toArray_toList]
                      refine wpAnyH_take (i := 14) (oi := { dst := some 221, op := Op.call { callee := Callee.builtin Builtin.min, args := #[Operand.const (Value.int IntKind.i64 40), Operand.tmp 220], argTypes := #[3, 3] }, type := 3, pos := "outright.go:85", after := #[{ on := 13, ground := Ground.data }], guard := none }) (v := ?_) rfl (by kernel_rfl) (by kernel_rfl) (by kernel_rfl) (fun _ _ _ h => h) (Or.inl ⟨by rfl, ?_⟩) hS0 ?_
                      rotate_left
                      · intro X hX
                        obtain x0 := hX
                        go_simp
                        try with_reducible rfl
                      simp only [Act.put, List.setIfInBounds_toArray, List.set_cons_zero, List.set_cons_succ, Array.toArray_toList]
                      refine wpAnyH_take (i := 15) (oi := { dst := some 222, op := Op.call { callee := Callee.builtin Builtin.max, args := #[Operand.const (Value.int IntKind.i64 0), Operand.tmp 221], argTypes := #[3, 3] }, type := 3, pos := "outright.go:85", after := #[{ on := 14, ground := Ground.data }], guard := none }) (v := ?_) rfl (by kernel_rfl) (by kernel_rfl) (by kernel_rfl) (fun _ _ _ h => h) (Or.inl ⟨by rfl, ?_⟩) hS0 ?_
                      rotate_left
                      · intro X hX
                        obtain x0 := hX
                        go_simp
                        try with_reducible rfl
                      simp only [Act.put, List.setIfInBounds_toArray, List.set_cons_zero, List.set_cons_succ, Array.toArray_toList]
                      refine wpAnyH_take (i := 16) (oi := { dst := some 223, op := Op.nilCheck (Operand.tmp 207), type := 0, pos := "outright.go:85", after := #[{ on := 0, ground := Ground.data }, { on := 0, ground := Ground.phase }, { on := 1, ground := Ground.phase }, { on := 2, ground := Ground.phase }, { on := 3, ground := Ground.phase }, { on := 4, ground := Ground.phase }, { on := 5, ground := Ground.phase }, { on := 6, ground := Ground.phase }, { on := 7, ground := Ground.phase }, { on := 8, ground := Ground.phase }, { on := 9, ground := Ground.phase }, { on := 10, ground := Ground.phase }, { on := 11, ground := Ground.phase }, { on := 12, ground := Ground.phase }, { on := 13, ground := Ground.phase }, { on := 14, ground := Ground.phase }, { on := 15, ground := Ground.phase }], guard := none }) (v := ?_) rfl (by kernel_rfl) (by kernel_rfl) (by kernel_rfl) (fun _ _ _ h => h) (Or.inl ⟨by rfl, ?_⟩) hS0 ?_
                      rotate_left
                      · intro X hX
                        obtain x0 := hX
                        go_simp
                        try with_reducible rfl
                      simp only [Act.put, List.setIfInBounds_toArray, List.set_cons_zero, List.set_cons_succ, Array.toArray_toList]
                      refine wpAnyH_take (i := 17) (oi := { dst := some 224, op := Op.fieldAddr 71 (Operand.tmp 223) 2, type := 0, pos := "outright.go:85", after := #[{ on := 16, ground := Ground.data }, { on := 0, ground := Ground.phase }, { on := 1, ground := Ground.phase }, { on := 2, ground := Ground.phase }, { on := 3, ground := Ground.phase }, { on := 4, ground := Ground.phase }, { on := 5, ground := Ground.phase }, { on := 6, ground := Ground.phase }, { on := 7, ground := Ground.phase }, { on := 8, ground := Ground.phase }, { on := 9, ground := Ground.phase }, { on := 10, ground := Ground.phase }, { on := 11, ground := Ground.phase }, { on := 12, ground := Ground.phase }, { on := 13, ground := Ground.phase }, { on := 14, ground := Ground.phase }, { on := 15, ground := Ground.phase }], guard := none }) (v := ?_) rfl (by kernel_rfl) (by kernel_rfl) (by kernel_rfl) (fun _ _ _ h => h) (Or.inl ⟨by rfl, ?_⟩) hS0 ?_
                      rotate_left
                      · intro X hX
                        obtain x0 := hX
                        go_simp
                        try with_reducible rfl
                      simp only [Act.put, List.setIfInBounds_toArray, List.set_cons_zero, List.set_cons_succ, Array.toArray_toList]
                      refine wpAnyH_ready (rs := [18]) (by kernel_rfl) (by simp) (AllReadyH.cons (o := { dst := none, op := Op.store 3 (Operand.tmp 224) (Operand.tmp 222), type := 0, pos := "outright.go:85", after := #[{ on := 17, ground := Ground.data }, { on := 15, ground := Ground.data }, { on := 0, ground := Ground.phase }, { on := 1, ground := Ground.phase }, { on := 2, ground := Ground.phase }, { on := 3, ground := Ground.phase }, { on := 4, ground := Ground.phase }, { on := 5, ground := Ground.phase }, { on := 6, ground := Ground.phase }, { on := 7, ground := Ground.phase }, { on := 8, ground := Ground.phase }, { on := 9, ground := Ground.phase }, { on := 10, ground := Ground.phase }, { on := 11, ground := Ground.phase }, { on := 12, ground := Ground.phase }, { on := 13, ground := Ground.phase }, { on := 14, ground := Ground.phase }, { on := 15, ground := Ground.phase }], guard := none }) rfl (fun K hK => ?_) AllReadyH.nil)
                      go_simp
                      rw [clamp_eq]
                      refine hK.out _ _ (((World.cell?_of_block (a := ⟨bx, ox + k, none⟩) (Below.heap_setCell _ _ _ _ hbg)).trans xkv)) (fun hS1 => ?_)
                      clear hS0 hK K
                      refine wpAnyH_done (by kernel_rfl) ?_ _
                      clear hS1
                      have HRO := Lib.hid (read_ok (t := l4[k].t) (c := l4[k].c) he.1 G0 hx01 (by rw [hWd]; exact m0) : ReadOk err ⟨l4[k].t, l4[k].c, max 0 (min 40 (x + m - err * G)), G⟩ x)
                      rw [hWd] at HRO
                      obtain ⟨RR, hRR⟩ : ∃ RR, max 0 (min 40 (x + m - Wd)) = RR := ⟨_, rfl⟩
                      rw [hRR] at HRO ⊢
                      have HROWw := Lib.hid (HROWv.out.put hkl5 (f := 2) (by omega) RR)
                      have ho2 : ∀ j, j ≠ g1 → ((wv.setCell ⟨g1, k * 4 + 2, none⟩ (.int .i64 RR)).drew).heap[j]? = wv.heap[j]? := fun j hj => Below.heap_setCell _ _ _ _ hj
                      have HNETw := Lib.hid ((ho2 Bn (by omega)).trans HNETv.out)
                      have HTRw := Lib.hid (HTRv.out.kept (row := some g1) (w' := (wv.setCell ⟨g1, k * 4 + 2, none⟩ (.int .i64 RR)).drew) ⟨rfl, rfl, rfl, by simp, fun j _ hj => ho2 j (fun e => hj (by rw [e]))⟩ (row_not_ang HTRv.out HROWv.out))
                      have HBEw := Lib.hid ((HBEv.out.setCell (p := ⟨g1, k * 4 + 2, none⟩) (by show w0.heap.size ≤ g1; omega) (.int .i64 RR)).drew)
                      clear v1 v2' v3 v4 v5 v6 v7 v8 p1 p2 hRR hWd hG hD hm b2 f2 xkv ho2 HROWv HNETv HTRv HBEv
                      go_wp2_with fail
                      go_roundw
                      case rel =>
                        refine ⟨k + 1, by omega, by omega, by go_num, _, ?_, HNETw.out, HROWw.out, HTRw.out, HBEw.out, fun j h h0 => ?_, fun j h hj => ?_⟩
                        · simp [HL4.out]
                        · obtain ⟨h4, e⟩ := set_read hkl4 G RR hkl5 j h
                          rw [e]
                          by_cases ej : j = k
                          · rw [if_pos ej]; subst ej; exact HTC.out j hkl4 hkl
                          · rw [if_neg ej]; exact HTC.out j h4 h0
                        · obtain ⟨h4, e⟩ := set_read hkl4 G RR hkl5 j h
                          rw [e]
                          by_cases ej : j = k
                          · rw [if_pos ej, ej, fnOf_at hxl, HX.out]; exact HRO.out
                          · rw [if_neg ej]; exact HRD.out j h4 (by omega)
                      case measure => simp [intOf]; omega
                    · have k2 : decide ((k : Int) < 12) = false := decide_eq_false (by omega)
                      have HFINE := Lib.hid (fun i (hi : i < l4.length) (h : i < 12) => HRD.out i hi (by omega))
                      have hcl := closed_ok (err := err) (HI5.out.same HL4.out HTC.out) hTT hCC (by omega) (by rw [HL4.out]; exact hlp) (by rw [HL4.out]; exact hl13) HFINE.out
                      have HCL := Lib.hid hcl
                      have nR := (HBE.out.block R (by omega)).trans HRES.out
                      have lR := (Array.getElem?_eq_some_iff.1 nR).1
                      have r0 : wr.cell? ⟨R, 0, none⟩ = some (.slice none 0 0) := by simp [World.cell?, nR]
                      have r1 : wr.cell? ⟨R, 1, none⟩ = some (.int .i64 0) := by simp [World.cell?, nR]
                      have r2 : wr.cell? ⟨R, 2, none⟩ = some (.int .i64 0) := by simp [World.cell?, nR]
                      have r3 : wr.frozen? ⟨R, 0, none⟩ = false := by simp [World.frozen?, nR]
                      have r4 : wr.frozen? ⟨R, 1, none⟩ = false := by simp [World.frozen?, nR]
                      have r5 : wr.frozen? ⟨R, 2, none⟩ = false := by simp [World.frozen?, nR]
                      have x1 : wr.cell? ⟨Bn, 1, none⟩ = some (.int .i64 (t : Int)) := by have := HNET.out; simp [World.cell?, this]
                      have x2 : wr.cell? ⟨Bn, 2, none⟩ = some (.int .i64 (c : Int)) := by have := HNET.out; simp [World.cell?, this]
                      have NR := Lib.hid nR
                      clear hcl nR
                      go_wp2_with fail
                      have hout : (((wr.setCell ⟨R, 0, none⟩ (.slice (some ⟨g1, 0, none⟩) l.length cas)).setCell ⟨R, 1, none⟩ (.int .i64 (t : Int))).setCell ⟨R, 2, none⟩ (.int .i64 (c : Int))).heap[R]? = some (.cells #[.slice (some ⟨g1, 0, none⟩) l.length cas, .int .i64 (t : Int), .int .i64 (c : Int)] 24 (0, 0)) := by have := NR.out; simp [World.setCell, Array.getElem?_modify, this]
                      have hoo : ∀ j, j ≠ R → (((wr.setCell ⟨R, 0, none⟩ (.slice (some ⟨g1, 0, none⟩) l.length cas)).setCell ⟨R, 1, none⟩ (.int .i64 (t : Int))).setCell ⟨R, 2, none⟩ (.int .i64 (c : Int))).heap[j]? = wr.heap[j]? := fun j hj => (Below.heap_setCell _ _ _ _ hj).trans ((Below.heap_setCell _ _ _ _ hj).trans (Below.heap_setCell _ _ _ _ hj))
                      have hbb := (((HWX.out _ HBE.out).setCell (p := ⟨R, 0, none⟩) (by show w.heap.size ≤ R; omega) (.slice (some ⟨g1, 0, none⟩) l.length cas)).setCell (p := ⟨R, 1, none⟩) (by show w.heap.size ≤ R; omega) (.int .i64 (t : Int))).setCell (p := ⟨R, 2, none⟩) (by show w.heap.size ≤ R; omega) (.int .i64 (c : Int))
                      have hzz : (((wr.setCell ⟨R, 0, none⟩ (.slice (some ⟨g1, 0, none⟩) l.length cas)).setCell ⟨R, 1, none⟩ (.int .i64 (t : Int))).setCell ⟨R, 2, none⟩ (.int .i64 (c : Int))).heap.size = wr.heap.size := by simp
                      have hoss : (((wr.setCell ⟨R, 0, none⟩ (.slice (some ⟨g1, 0, none⟩) l.length cas)).setCell ⟨R, 1, none⟩ (.int .i64 (t : Int))).setCell ⟨R, 2, none⟩ (.int .i64 (c : Int))).os = wr.os ∧ (((wr.setCell ⟨R, 0, none⟩ (.slice (some ⟨g1, 0, none⟩) l.length cas)).setCell ⟨R, 1, none⟩ (.int .i64 (t : Int))).setCell ⟨R, 2, none⟩ (.int .i64 (c : Int))).tape = wr.tape ∧ (((wr.setCell ⟨R, 0, none⟩ (.slice (some ⟨g1, 0, none⟩) l.length cas)).setCell ⟨R, 1, none⟩ (.int .i64 (t : Int))).setCell ⟨R, 2, none⟩ (.int .i64 (c : Int))).output = wr.output := ⟨rfl, rfl, rfl⟩
                      generalize ((wr.setCell ⟨R, 0, none⟩ (.slice (some ⟨g1, 0, none⟩) l.length cas)).setCell ⟨R, 1, none⟩ (.int .i64 (t : Int))).setCell ⟨R, 2, none⟩ (.int .i64 (c : Int)) = wF at hout hoo hbb hzz hoss ⊢
                      have q0 : wF.cell? ⟨R, 0, none⟩ = some (.slice (some ⟨g1, 0, none⟩) l.length cas) := by simp [World.cell?, hout]
                      have q1 : wF.cell? ⟨R, 1, none⟩ = some (.int .i64 (t : Int)) := by simp [World.cell?, hout]
                      have q2 : wF.cell? ⟨R, 2, none⟩ = some (.int .i64 (c : Int)) := by simp [World.cell?, hout]
                      have htF := IntsAt.of_own (HTR.out.kept (row := some R) (w' := wF) ⟨hoss.1, hoss.2.1, hoss.2.2, by omega, fun j _ hj => hoo j (fun e => hj (by rw [e]))⟩ (by
                        cases hv : ((.slice At xs.length ct) : Value).ownBlock with
                        | none => exact .inl rfl
                        | some j => right; intro e; have := HTR.out.lt j hv; cases e; omega))
                      have haF := (HROW.out.of_block (hoo g1 (by omega))).angs
                      refine bodyPost_ret (v := .tuple #[.agg #[.slice (some ⟨g1, 0, none⟩) l.length cas, .int .i64 (t : Int), .int .i64 (c : Int)], (.slice At xs.length ct)]) (by simp [results, Try.results45, go_sem, q0, q1, q2]) rfl ?_
                      exact ⟨hbb, some ⟨g1, 0, none⟩, cas, t, c, (.slice At xs.length ct), l4, xs, by rw [HL4.out], haF, htF, ⟨_, rfl⟩, HCL.out⟩
                  · have k1 : decide ((k : Int) < (l.length : Int)) = false := decide_eq_false (by omega)
                    have HFINE := Lib.hid (fun i (hi : i < l4.length) (h : i < 12) => HRD.out i hi (by have := HL4.out; omega))
                    have hcl := closed_ok (err := err) (HI5.out.same HL4.out HTC.out) hTT hCC (by omega) (by rw [HL4.out]; exact hlp) (by rw [HL4.out]; exact hl13) HFINE.out
                    have HCL := Lib.hid hcl
                    have nR := (HBE.out.block R (by omega)).trans HRES.out
                    have lR := (Array.getElem?_eq_some_iff.1 nR).1
                    have r0 : wr.cell? ⟨R, 0, none⟩ = some (.slice none 0 0) := by simp [World.cell?, nR]
                    have r1 : wr.cell? ⟨R, 1, none⟩ = some (.int .i64 0) := by simp [World.cell?, nR]
                    have r2 : wr.cell? ⟨R, 2, none⟩ = some (.int .i64 0) := by simp [World.cell?, nR]
                    have r3 : wr.frozen? ⟨R, 0, none⟩ = false := by simp [World.frozen?, nR]
                    have r4 : wr.frozen? ⟨R, 1, none⟩ = false := by simp [World.frozen?, nR]
                    have r5 : wr.frozen? ⟨R, 2, none⟩ = false := by simp [World.frozen?, nR]
                    have x1 : wr.cell? ⟨Bn, 1, none⟩ = some (.int .i64 (t : Int)) := by have := HNET.out; simp [World.cell?, this]
                    have x2 : wr.cell? ⟨Bn, 2, none⟩ = some (.int .i64 (c : Int)) := by have := HNET.out; simp [World.cell?, this]
                    have NR := Lib.hid nR
                    clear hcl nR
                    go_wp2_with fail
                    have hout : (((wr.setCell ⟨R, 0, none⟩ (.slice (some ⟨g1, 0, none⟩) l.length cas)).setCell ⟨R, 1, none⟩ (.int .i64 (t : Int))).setCell ⟨R, 2, none⟩ (.int .i64 (c : Int))).heap[R]? = some (.cells #[.slice (some ⟨g1, 0, none⟩) l.length cas, .int .i64 (t : Int), .int .i64 (c : Int)] 24 (0, 0)) := by have := NR.out; simp [World.setCell, Array.getElem?_modify, this]
                    have hoo : ∀ j, j ≠ R → (((wr.setCell ⟨R, 0, none⟩ (.slice (some ⟨g1, 0, none⟩) l.length cas)).setCell ⟨R, 1, none⟩ (.int .i64 (t : Int))).setCell ⟨R, 2, none⟩ (.int .i64 (c : Int))).heap[j]? = wr.heap[j]? := fun j hj => (Below.heap_setCell _ _ _ _ hj).trans ((Below.heap_setCell _ _ _ _ hj).trans (Below.heap_setCell _ _ _ _ hj))
                    have hbb := (((HWX.out _ HBE.out).setCell (p := ⟨R, 0, none⟩) (by show w.heap.size ≤ R; omega) (.slice (some ⟨g1, 0, none⟩) l.length cas)).setCell (p := ⟨R, 1, none⟩) (by show w.heap.size ≤ R; omega) (.int .i64 (t : Int))).setCell (p := ⟨R, 2, none⟩) (by show w.heap.size ≤ R; omega) (.int .i64 (c : Int))
                    have hzz : (((wr.setCell ⟨R, 0, none⟩ (.slice (some ⟨g1, 0, none⟩) l.length cas)).setCell ⟨R, 1, none⟩ (.int .i64 (t : Int))).setCell ⟨R, 2, none⟩ (.int .i64 (c : Int))).heap.size = wr.heap.size := by simp
                    have hoss : (((wr.setCell ⟨R, 0, none⟩ (.slice (some ⟨g1, 0, none⟩) l.length cas)).setCell ⟨R, 1, none⟩ (.int .i64 (t : Int))).setCell ⟨R, 2, none⟩ (.int .i64 (c : Int))).os = wr.os ∧ (((wr.setCell ⟨R, 0, none⟩ (.slice (some ⟨g1, 0, none⟩) l.length cas)).setCell ⟨R, 1, none⟩ (.int .i64 (t : Int))).setCell ⟨R, 2, none⟩ (.int .i64 (c : Int))).tape = wr.tape ∧ (((wr.setCell ⟨R, 0, none⟩ (.slice (some ⟨g1, 0, none⟩) l.length cas)).setCell ⟨R, 1, none⟩ (.int .i64 (t : Int))).setCell ⟨R, 2, none⟩ (.int .i64 (c : Int))).output = wr.output := ⟨rfl, rfl, rfl⟩
                    generalize ((wr.setCell ⟨R, 0, none⟩ (.slice (some ⟨g1, 0, none⟩) l.length cas)).setCell ⟨R, 1, none⟩ (.int .i64 (t : Int))).setCell ⟨R, 2, none⟩ (.int .i64 (c : Int)) = wF at hout hoo hbb hzz hoss ⊢
                    have q0 : wF.cell? ⟨R, 0, none⟩ = some (.slice (some ⟨g1, 0, none⟩) l.length cas) := by simp [World.cell?, hout]
                    have q1 : wF.cell? ⟨R, 1, none⟩ = some (.int .i64 (t : Int)) := by simp [World.cell?, hout]
                    have q2 : wF.cell? ⟨R, 2, none⟩ = some (.int .i64 (c : Int)) := by simp [World.cell?, hout]
                    have htF := IntsAt.of_own (HTR.out.kept (row := some R) (w' := wF) ⟨hoss.1, hoss.2.1, hoss.2.2, by omega, fun j _ hj => hoo j (fun e => hj (by rw [e]))⟩ (by
                      cases hv : ((.slice At xs.length ct) : Value).ownBlock with
                      | none => exact .inl rfl
                      | some j => right; intro e; have := HTR.out.lt j hv; cases e; omega))
                    have haF := (HROW.out.of_block (hoo g1 (by omega))).angs
                    refine bodyPost_ret (v := .tuple #[.agg #[.slice (some ⟨g1, 0, none⟩) l.length cas, .int .i64 (t : Int), .int .i64 (c : Int)], (.slice At xs.length ct)]) (by simp [results, Try.results45, go_sem, q0, q1, q2]) rfl ?_
                    exact ⟨hbb, some ⟨g1, 0, none⟩, cas, t, c, (.slice At xs.length ct), l4, xs, by rw [HL4.out], haF, htF, ⟨_, rfl⟩, HCL.out⟩
            · have b1 : decide ((l.length : Int) < 12) = false := decide_eq_false (by omega)
              obtain ⟨g1, hg1⟩ := hsome (by omega)
              subst hg1
              have HI5 := HI
              have HP := HM
              have hl13 : l.length ≤ 13 := by omega
              have hlp : 0 < l.length := by omega
              go_upto_region 32 with fail
              clear x0 x1 x2 x3 h12 b1
              have hrow : AngRow wr g1 l ∧ Bc + 1 ≤ g1 := by
                obtain ⟨g', cap', he', h1, h2⟩ := AngRow.of_own hlp HP.out.angs
                cases he'
                exact ⟨h2, h1⟩
              have HROW := Lib.hid hrow.1
              have hgB := hrow.2
              have HNET := Lib.hid HP.out.net
              have HTR := Lib.hid HP.out.tr
              have HBE := Lib.hid HP.out.below
              have hb0 := HP.out.b0
              have hb1 := HP.out.b1
              clear hrow
              have hTT : 0 ≤ (t : Int) ∧ (t : Int) ≤ 3 := T0
              have hCC : 0 ≤ (c : Int) ∧ (c : Int) ≤ 2 := C0
              have hll := HP.out.below
              go_wp2_with fail
              obtain ⟨wo4, rfl⟩ : ∃ wo : World, wo = wr := ⟨_, rfl⟩
              clear hll
              obtain ⟨At, ct, hvt, _⟩ := IntsAt.of_own HTR.out
              subst hvt
              go_loopw [17] (Cl4 w0 Bn Bc (t : Int) (c : Int) err g1 cas (.slice At xs.length ct) l xs) (fun i _ => 12 - (intOf i).toNat)
              case atStart => exact ⟨0, by omega, by omega, rfl, l, rfl, HNET.out, HROW.out, HTR.out, HBE.out, fun j h h0 => ⟨rfl, rfl⟩, fun j h hj => by omega⟩
              case round =>
                clear HNET HROW HTR HBE
                obtain ⟨k, hk1, hk2, rfl, l4, hl4, hnet, hrow, htr, hbe, htc, hrd⟩ := hrel
                have HNET := Lib.hid hnet
                have HROW := Lib.hid hrow
                have HTR := Lib.hid htr
                have HBE := Lib.hid hbe
                have HTC := Lib.hid htc
                have HRD := Lib.hid hrd
                have HL4 := Lib.hid hl4
                have x0 : wr.cell? ⟨Bn, 0, none⟩ = some (.slice (some ⟨g1, 0, none⟩) l.length cas) := by simp [World.cell?, hnet]
                have lBn := (Array.getElem?_eq_some_iff.1 hnet).1
                have lg := hrow.lt
                have lw4 := hbe.size
                clear hnet hrow htr hbe htc hrd hl4
                by_cases hkl : k < l.length
                · have k1 : decide ((k : Int) < (l.length : Int)) = true := decide_eq_true (by omega)
                  by_cases hk12 : k < 12
                  · have k2 : decide ((k : Int) < 12) = true := decide_eq_true (by omega)
                    have hkl4 : k < l4.length := by rw [HL4.out]; exact hkl
                    obtain ⟨a0, a1, a2, a3⟩ := HROW.out.cells hkl4
                    have f2 := HROW.out.frozen (k * 4 + 2)
                    have f3 := HROW.out.frozen (k * 4 + 3)
                    have hwd := hword.out wr (HWX.out _ HBE.out) (k + 11) (by omega)
                    rw [show ((k + 11 : Nat) : Int) = (k : Int) + 11 by omega] at hwd
                    have HWD := Lib.hid hwd
                    have hxl : k < xs.length := by have := HI5.out.len; omega
                    have hx01 := HI5.out.x01 xs[k] (List.getElem_mem hxl)
                    have htv := IntsAt.of_own HTR.out
                    obtain ⟨At', ct', hvt, htc2⟩ := htv
                    obtain ⟨rfl, rfl⟩ : At = At' ∧ ct = ct' := by simpa using hvt
                    clear hvt
                    obtain ⟨bx, ox, rfl, hxc⟩ := htc2.resolve_left (fun h => by rw [h] at hxl; simp at hxl)
                    have xk := hxc k hxl
                    obtain ⟨x, hx⟩ : ∃ x, xs[k] = x := ⟨_, rfl⟩
                    rw [hx] at xk hx01
                    have HX := Lib.hid hx
                    have i1 : (0 : Int) ≤ (k : Int) := by omega
                    have i2 : (k : Int) < (l.length : Int) := by omega
                    have i3 : (k : Int) < (xs.length : Int) := by omega
                    have hbg : bx ≠ g1 := by
                      rcases row_not_ang HTR.out HROW.out with h | h
                      · simp [Value.ownBlock] at h
                      · simpa [Value.ownBlock] using h
                    have hgb : g1 ≠ bx := fun h => hbg h.symm
                    have hgn : g1 ≠ Bn := by omega
                    have hgn' : Bn ≠ g1 := by omega
                    clear hwd hxc hx
                    go_wp2_with fail
                    refine HWD.out.mono ?_
                    rintro e wx ⟨q, rfl, q0, q1, rfl⟩
                    clear HWD
                    obtain ⟨G, hG⟩ : ∃ G, 1 + q % 3 = G := ⟨_, rfl⟩
                    have G0 : 1 ≤ G ∧ G ≤ 3 := by omega
                    have w0' : 0 ≤ err * G := Int.mul_nonneg he.1 (by omega)
                    have w1' : err * G ≤ 5 * 3 := Int.mul_le_mul he.2 G0.2 (by omega) (by omega)
                    obtain ⟨Wd, hWd⟩ : ∃ Wd, err * G = Wd := ⟨_, rfl⟩
                    rw [hWd] at w0' w1'
                    obtain ⟨D, hD⟩ : ∃ D, q / 4 = D := ⟨_, rfl⟩
                    have D0 : 0 ≤ D := by omega
                    obtain ⟨m, hm⟩ : ∃ m, D % (2 * Wd + 1) = m := ⟨_, rfl⟩
                    have m0 : 0 ≤ m ∧ m ≤ 2 * Wd := by
                      have h1 := Int.emod_nonneg D (show 2 * Wd + 1 ≠ 0 by omega)
                      have h2 := Int.emod_lt_of_pos D (show 0 < 2 * Wd + 1 by omega)
                      omega
                    go_upto_region 39 with fail
                    have HROWv := Lib.hid (HROW.out.put hkl4 (f := 3) (by omega) G)
                    have ho3 : ∀ j, j ≠ g1 → (wr.setCell ⟨g1, k * 4 + 3, none⟩ (.int .i64 G)).heap[j]? = wr.heap[j]? := fun j hj => Below.heap_setCell _ _ _ _ hj
                    have xkv : (wr.setCell ⟨g1, k * 4 + 3, none⟩ (.int .i64 G)).cell? ⟨bx, ox + k, none⟩ = some (.int .i64 x) := (World.cell?_of_block (a := ⟨bx, ox + k, none⟩) (ho3 bx hbg)).trans xk
                    have HNETv := Lib.hid ((ho3 Bn (by omega)).trans HNET.out)
                    have HTRv := Lib.hid (HTR.out.kept (row := some g1) (w' := wr.setCell ⟨g1, k * 4 + 3, none⟩ (.int .i64 G)) ⟨rfl, rfl, rfl, by simp, fun j _ hj => ho3 j (fun e => hj (by rw [e]))⟩ (row_not_ang HTR.out HROW.out))
                    have HBEv := Lib.hid (HBE.out.setCell (p := ⟨g1, k * 4 + 3, none⟩) (by show w0.heap.size ≤ g1; omega) (.int .i64 G))
                    generalize wr.setCell ⟨g1, k * 4 + 3, none⟩ (.int .i64 G) = wv at HROWv xkv HNETv HTRv HBEv ⊢
                    clear ho3 HNET HTR HBE a0 a1 a2 a3 f2 f3 xk x0
                    have hkl5 : k < (l4.set k (putF l4[k] 3 G)).length := by simpa using hkl4
                    have b2 := (HROWv.out.cells hkl5).2.2.1
                    have f2 := HROWv.out.frozen (k * 4 + 2)
                    have lgv := HROWv.out.lt
                    have v1 : IntKind.i64.wrap (2 * Wd) = 2 * Wd := IntWalk.i64_in _ (by omega)
                    have v2' : IntKind.i64.wrap (2 * Wd + 1) = 2 * Wd + 1 := IntWalk.i64_in _ (by omega)
                    have v3 : IntKind.i64.wrap (x + m) = x + m := IntWalk.i64_in _ (by omega)
                    have v4 : IntKind.i64.wrap (x + m - Wd) = x + m - Wd := IntWalk.i64_in _ (by omega)
                    have v5 : q.tdiv 4 = D := by rw [← hD]; exact Int.tdiv_eq_ediv_of_nonneg q0
                    have v6 : D.tmod (2 * Wd + 1) = m := by rw [← hm]; exact Int.tmod_eq_emod_of_nonneg D0
                    have p1 : (2 * Wd + 1 == 0) = false := by simp; omega
                    have p2 : ¬ (2 * Wd + 1 = 0) := by omega
                    have v7 : IntKind.i64.wrap D = D := IntWalk.i64_in _ (by omega)
                    have v8 : IntKind.i64.wrap m = m := IntWalk.i64_in _ (by omega)
                    refine wp_region_held_drew (S := fun X => X.cell? ⟨bx, ox + k, none⟩ = some (.int .i64 x)) (by kernel_rfl) (xkv) (fun hS0 => ?_)
                    refine wpAnyH_take (i := 0) (oi := { dst := some 207, op := Op.move (Operand.tmp 18), type := 98, pos := "outright.go:85", after := #[], guard := none }) (v := ?_) rfl (by kernel_rfl) (by kernel_rfl) (by kernel_rfl) (fun _ _ _ h => h) (Or.inl ⟨by rfl, ?_⟩) hS0 ?_
                    rotate_left
                    · intro X hX
                      obtain x0 := hX
                      go_simp
                      try with_reducible rfl
                    simp only [Act.put, List.setIfInBounds_toArray, List.set_cons_zero, List.set_cons_succ, Array.toArray_toList]
                    refine wpAnyH_take (i := 1) (oi := { dst := some 208, op := Op.move (Operand.tmp 7), type := 25, pos := "outright.go:85", after := #[], guard := none }) (v := ?_) rfl (by kernel_rfl) (by kernel_rfl) (by kernel_rfl) (fun _ _ _ h => h) (Or.inl ⟨by rfl, ?_⟩) hS0 ?_
                    rotate_left
                    · intro X hX
                      obtain x0 := hX
                      go_simp
                      try with_reducible rfl
                    simp only [Act.put, List.setIfInBounds_toArray, List.set_cons_zero, List.set_cons_succ, Array.toArray_toList]
                    refine wpAnyH_take (i := 2) (oi := { dst := some 209, op := Op.move (Operand.tmp 17), type := 3, pos := "outright.go:85", after := #[], guard := none }) (v := ?_) rfl (by kernel_rfl) (by kernel_rfl) (by kernel_rfl) (fun _ _ _ h => h) (Or.inl ⟨by rfl, ?_⟩) hS0 ?_
                    rotate_left
                    · intro X hX
                      obtain x0 := hX
                      go_simp
                      try with_reducible rfl
                    simp only [Act.put, List.setIfInBounds_toArray, List.set_cons_zero, List.set_cons_succ, Array.toArray_toList]
                    refine wpAnyH_take (i := 3) (oi := { dst := some 210, op := Op.indexAddr 25 (Operand.tmp 208) (Operand.tmp 209), type := 0, pos := "outright.go:85", after := #[{ on := 1, ground := Ground.data }, { on := 2, ground := Ground.data }], guard := none }) (v := ?_) rfl (by kernel_rfl) (by kernel_rfl) (by kernel_rfl) (fun _ _ _ h => h) (Or.inl ⟨by rfl, ?_⟩) hS0 ?_
                    rotate_left
                    · intro X hX
                      obtain x0 := hX
                      go_simp
                      try with_reducible rfl
                    simp only [Act.put, List.setIfInBounds_toArray, List.set_cons_zero, List.set_cons_succ, Array.toArray_toList]
                    refine wpAnyH_take (i := 4) (oi := { dst := some 211, op := Op.load 3 (Operand.tmp 210), type := 3, pos := "outright.go:85", after := #[{ on := 3, ground := Ground.data }], guard := none }) (v := ?_) rfl (by kernel_rfl) (by kernel_rfl) (by kernel_rfl) (fun _ _ _ h => h) (Or.inl ⟨by rfl, ?_⟩) hS0 ?_
                    rotate_left
                    · intro X hX
                      obtain x0 := hX
                      go_simp
                      try with_reducible rfl
                    simp only [Act.put, List.setIfInBounds_toArray, List.set_cons_zero, List.set_cons_succ, Array.toArray_toList]
                    refine wpAnyH_take (i := 5) (oi := { dst := some 212, op := Op.move (Operand.tmp 19), type := 3, pos := "outright.go:85", after := #[], guard := none }) (v := ?_) rfl (by kernel_rfl) (by kernel_rfl) (by kernel_rfl) (fun _ _ _ h => h) (Or.inl ⟨by rfl, ?_⟩) hS0 ?_
                    rotate_left
                    · intro X hX
                      obtain x0 := hX
                      go_simp
                      try with_reducible rfl
                    simp only [Act.put, List.setIfInBounds_toArray, List.set_cons_zero, List.set_cons_succ, Array.toArray_toList]
                    refine wpAnyH_take (i := 6) (oi := { dst := some 213, op := Op.binOp BinOp.quo 3 (Operand.tmp 212) (Operand.const (Value.int IntKind.i64 4)) 3, type := 3, pos := "outright.go:85", after := #[{ on := 5, ground := Ground.data }], guard := none }) (v := ?_) rfl (by kernel_rfl) (by kernel_rfl) (by kernel_rfl) (fun _ _ _ h => h) (Or.inl ⟨by rfl, ?_⟩) hS0 ?_
                    rotate_left
                    · intro X hX
                      obtain x0 := hX
                      go_simp
                      try with_reducible rfl
                    simp only [Act.put, List.setIfInBounds_toArray, List.set_cons_zero, List.set_cons_succ, Array.toArray_toList]
                    refine wpAnyH_take (i := 7) (oi := { dst := some 214, op := Op.move (Operand.tmp 20), type := 3, pos := "outright.go:85", after := #[], guard := none }) (v := ?_) rfl (by kernel_rfl) (by kernel_rfl) (by kernel_rfl) (fun _ _ _ h => h) (Or.inl ⟨by rfl, ?_⟩) hS0 ?_
                    rotate_left
                    · intro X hX
                      obtain x0 := hX
                      go_simp
                      try with_reducible rfl
                    simp only [Act.put, List.setIfInBounds_toArray, List.set_cons_zero, List.set_cons_succ, Array.toArray_toList]
                    refine wpAnyH_take (i := 8) (oi := { dst := some 215, op := Op.binOp BinOp.mul 3 (Operand.const (Value.int IntKind.i64 2)) (Operand.tmp 214) 3, type := 3, pos := "outright.go:85", after := #[{ on := 7, ground := Ground.data }], guard := none }) (v := ?_) rfl (by kernel_rfl) (by kernel_rfl) (by kernel_rfl) (fun _ _ _ h => h) (Or.inl ⟨by rfl, ?_⟩) hS0 ?_
                    rotate_left
                    · intro X hX
                      obtain x0 := hX
                      go_simp
                      try with_reducible rfl
                    simp only [Act.put, List.setIfInBounds_toArray, List.set_cons_zero, List.set_cons_succ, Array.toArray_toList]
                    refine wpAnyH_take (i := 9) (oi := { dst := some 216, op := Op.binOp BinOp.add 3 (Operand.tmp 215) (Operand.const (Value.int IntKind.i64 1)) 3, type := 3, pos := "outright.go:85", after := #[{ on := 8, ground := Ground.data }], guard := none }) (v := ?_) rfl (by kernel_rfl) (by kernel_rfl) (by kernel_rfl) (fun _ _ _ h => h) (Or.inl ⟨by rfl, ?_⟩) hS0 ?_
                    rotate_left
                    · intro X hX
                      obtain x0 := hX
                      go_simp
                      try with_reducible rfl
                    simp only [Act.put, List.setIfInBounds_toArray, List.set_cons_zero, List.set_cons_succ, Array.toArray_toList]
                    refine wpAnyH_take (i := 10) (oi := { dst := some 217, op := Op.binOp BinOp.rem 3 (Operand.tmp 213) (Operand.tmp 216) 3, type := 3, pos := "outright.go:85", after := #[{ on := 6, ground := Ground.data }, { on := 9, ground := Ground.data }], guard := none }) (v := ?_) rfl (by kernel_rfl) (by kernel_rfl) (by kernel_rfl) (fun _ _ _ h => h) (Or.inl ⟨by rfl, ?_⟩) hS0 ?_
                    rotate_left
                    · intro X hX
                      obtain x0 := hX
                      go_simp
                      try with_reducible rfl
                    simp only [Act.put, List.setIfInBounds_toArray, List.set_cons_zero, List.set_cons_succ, Array.toArray_toList]
                    refine wpAnyH_take (i := 11) (oi := { dst := some 218, op := Op.binOp BinOp.add 3 (Operand.tmp 211) (Operand.tmp 217) 3, type := 3, pos := "outright.go:85", after := #[{ on := 4, ground := Ground.data }, { on := 10, ground := Ground.data }], guard := none }) (v := ?_) rfl (by kernel_rfl) (by kernel_rfl) (by kernel_rfl) (fun _ _ _ h => h) (Or.inl ⟨by rfl, ?_⟩) hS0 ?_
                    rotate_left
                    · intro X hX
                      obtain x0 := hX
                      go_simp
                      try with_reducible rfl
                    simp only [Act.put, List.setIfInBounds_toArray, List.set_cons_zero, List.set_cons_succ, Array.toArray_toList]
                    refine wpAnyH_take (i := 12) (oi := { dst := some 219, op := Op.move (Operand.tmp 20), type := 3, pos := "outright.go:85", after := #[], guard := none }) (v := ?_) rfl (by kernel_rfl) (by kernel_rfl) (by kernel_rfl) (fun _ _ _ h => h) (Or.inl ⟨by rfl, ?_⟩) hS0 ?_
                    rotate_left
                    · intro X hX
                      obtain x0 := hX
                      go_simp
                      try with_reducible rfl
                    simp only [Act.put, List.setIfInBounds_toArray, List.set_cons_zero, List.set_cons_succ, Array.toArray_toList]
                    refine wpAnyH_take (i := 13) (oi := { dst := some 220, op := Op.binOp BinOp.sub 3 (Operand.tmp 218) (Operand.tmp 219) 3, type := 3, pos := "outright.go:85", after := #[{ on := 11, ground := Ground.data }, { on := 12, ground := Ground.data }], guard := none }) (v := ?_) rfl (by kernel_rfl) (by kernel_rfl) (by kernel_rfl) (fun _ _ _ h => h) (Or.inl ⟨by rfl, ?_⟩) hS0 ?_
                    rotate_left
                    · intro X hX
                      obtain x0 := hX
                      go_simp
                      try with_reducible rfl
                    simp only [Act.put, List.setIfInBounds_toArray, List.set_cons_zero, List.set_cons_succ, Array.toArray_toList]
                    refine wpAnyH_take (i := 14) (oi := { dst := some 221, op := Op.call { callee := Callee.builtin Builtin.min, args := #[Operand.const (Value.int IntKind.i64 40), Operand.tmp 220], argTypes := #[3, 3] }, type := 3, pos := "outright.go:85", after := #[{ on := 13, ground := Ground.data }], guard := none }) (v := ?_) rfl (by kernel_rfl) (by kernel_rfl) (by kernel_rfl) (fun _ _ _ h => h) (Or.inl ⟨by rfl, ?_⟩) hS0 ?_
                    rotate_left
                    · intro X hX
                      obtain x0 := hX
                      go_simp
                      try with_reducible rfl
                    simp only [Act.put, List.setIfInBounds_toArray, List.set_cons_zero, List.set_cons_succ, Array.toArray_toList]
                    refine wpAnyH_take (i := 15) (oi := { dst := some 222, op := Op.call { callee := Callee.builtin Builtin.max, args := #[Operand.const (Value.int IntKind.i64 0), Operand.tmp 221], argTypes := #[3, 3] }, type := 3, pos := "outright.go:85", after := #[{ on := 14, ground := Ground.data }], guard := none }) (v := ?_) rfl (by kernel_rfl) (by kernel_rfl) (by kernel_rfl) (fun _ _ _ h => h) (Or.inl ⟨by rfl, ?_⟩) hS0 ?_
                    rotate_left
                    · intro X hX
                      obtain x0 := hX
                      go_simp
                      try with_reducible rfl
                    simp only [Act.put, List.setIfInBounds_toArray, List.set_cons_zero, List.set_cons_succ, Array.toArray_toList]
                    refine wpAnyH_take (i := 16) (oi := { dst := some 223, op := Op.nilCheck (Operand.tmp 207), type := 0, pos := "outright.go:85", after := #[{ on := 0, ground := Ground.data }, { on := 0, ground := Ground.phase }, { on := 1, ground := Ground.phase }, { on := 2, ground := Ground.phase }, { on := 3, ground := Ground.phase }, { on := 4, ground := Ground.phase }, { on := 5, ground := Ground.phase }, { on := 6, ground := Ground.phase }, { on := 7, ground := Ground.phase }, { on := 8, ground := Ground.phase }, { on := 9, ground := Ground.phase }, { on := 10, ground := Ground.phase }, { on := 11, ground := Ground.phase }, { on := 12, ground := Ground.phase }, { on := 13, ground := Ground.phase }, { on := 14, ground := Ground.phase }, { on := 15, ground := Ground.phase }], guard := none }) (v := ?_) rfl (by kernel_rfl) (by kernel_rfl) (by kernel_rfl) (fun _ _ _ h => h) (Or.inl ⟨by rfl, ?_⟩) hS0 ?_
                    rotate_left
                    · intro X hX
                      obtain x0 := hX
                      go_simp
                      try with_reducible rfl
                    simp only [Act.put, List.setIfInBounds_toArray, List.set_cons_zero, List.set_cons_succ, Array.toArray_toList]
                    refine wpAnyH_take (i := 17) (oi := { dst := some 224, op := Op.fieldAddr 71 (Operand.tmp 223) 2, type := 0, pos := "outright.go:85", after := #[{ on := 16, ground := Ground.data }, { on := 0, ground := Ground.phase }, { on := 1, ground := Ground.phase }, { on := 2, ground := Ground.phase }, { on := 3, ground := Ground.phase }, { on := 4, ground := Ground.phase }, { on := 5, ground := Ground.phase }, { on := 6, ground := Ground.phase }, { on := 7, ground := Ground.phase }, { on := 8, ground := Ground.phase }, { on := 9, ground := Ground.phase }, { on := 10, ground := Ground.phase }, { on := 11, ground := Ground.phase }, { on := 12, ground := Ground.phase }, { on := 13, ground := Ground.phase }, { on := 14, ground := Ground.phase }, { on := 15, ground := Ground.phase }], guard := none }) (v := ?_) rfl (by kernel_rfl) (by kernel_rfl) (by kernel_rfl) (fun _ _ _ h => h) (Or.inl ⟨by rfl, ?_⟩) hS0 ?_
                    rotate_left
                    · intro X hX
                      obtain x0 := hX
                      go_simp
                      try with_reducible rfl
                    simp only [Act.put, List.setIfInBounds_toArray, List.set_cons_zero, List.set_cons_succ, Array.toArray_toList]
                    refine wpAnyH_ready (rs := [18]) (by kernel_rfl) (by simp) (AllReadyH.cons (o := { dst := none, op := Op.store 3 (Operand.tmp 224) (Operand.tmp 222), type := 0, pos := "outright.go:85", after := #[{ on := 17, ground := Ground.data }, { on := 15, ground := Ground.data }, { on := 0, ground := Ground.phase }, { on := 1, ground := Ground.phase }, { on := 2, ground := Ground.phase }, { on := 3, ground := Ground.phase }, { on := 4, ground := Ground.phase }, { on := 5, ground := Ground.phase }, { on := 6, ground := Ground.phase }, { on := 7, ground := Ground.phase }, { on := 8, ground := Ground.phase }, { on := 9, ground := Ground.phase }, { on := 10, ground := Ground.phase }, { on := 11, ground := Ground.phase }, { on := 12, ground := Ground.phase }, { on := 13, ground := Ground.phase }, { on := 14, ground := Ground.phase }, { on := 15, ground := Ground.phase }], guard := none }) rfl (fun K hK => ?_) AllReadyH.nil)
                    go_simp
                    rw [clamp_eq]
                    refine hK.out _ _ (((World.cell?_of_block (a := ⟨bx, ox + k, none⟩) (Below.heap_setCell _ _ _ _ hbg)).trans xkv)) (fun hS1 => ?_)
                    clear hS0 hK K
                    refine wpAnyH_done (by kernel_rfl) ?_ _
                    clear hS1
                    have HRO := Lib.hid (read_ok (t := l4[k].t) (c := l4[k].c) he.1 G0 hx01 (by rw [hWd]; exact m0) : ReadOk err ⟨l4[k].t, l4[k].c, max 0 (min 40 (x + m - err * G)), G⟩ x)
                    rw [hWd] at HRO
                    obtain ⟨RR, hRR⟩ : ∃ RR, max 0 (min 40 (x + m - Wd)) = RR := ⟨_, rfl⟩
                    rw [hRR] at HRO ⊢
                    have HROWw := Lib.hid (HROWv.out.put hkl5 (f := 2) (by omega) RR)
                    have ho2 : ∀ j, j ≠ g1 → ((wv.setCell ⟨g1, k * 4 + 2, none⟩ (.int .i64 RR)).drew).heap[j]? = wv.heap[j]? := fun j hj => Below.heap_setCell _ _ _ _ hj
                    have HNETw := Lib.hid ((ho2 Bn (by omega)).trans HNETv.out)
                    have HTRw := Lib.hid (HTRv.out.kept (row := some g1) (w' := (wv.setCell ⟨g1, k * 4 + 2, none⟩ (.int .i64 RR)).drew) ⟨rfl, rfl, rfl, by simp, fun j _ hj => ho2 j (fun e => hj (by rw [e]))⟩ (row_not_ang HTRv.out HROWv.out))
                    have HBEw := Lib.hid ((HBEv.out.setCell (p := ⟨g1, k * 4 + 2, none⟩) (by show w0.heap.size ≤ g1; omega) (.int .i64 RR)).drew)
                    clear v1 v2' v3 v4 v5 v6 v7 v8 p1 p2 hRR hWd hG hD hm b2 f2 xkv ho2 HROWv HNETv HTRv HBEv
                    go_wp2_with fail
                    go_roundw
                    case rel =>
                      refine ⟨k + 1, by omega, by omega, by go_num, _, ?_, HNETw.out, HROWw.out, HTRw.out, HBEw.out, fun j h h0 => ?_, fun j h hj => ?_⟩
                      · simp [HL4.out]
                      · obtain ⟨h4, e⟩ := set_read hkl4 G RR hkl5 j h
                        rw [e]
                        by_cases ej : j = k
                        · rw [if_pos ej]; subst ej; exact HTC.out j hkl4 hkl
                        · rw [if_neg ej]; exact HTC.out j h4 h0
                      · obtain ⟨h4, e⟩ := set_read hkl4 G RR hkl5 j h
                        rw [e]
                        by_cases ej : j = k
                        · rw [if_pos ej, ej, fnOf_at hxl, HX.out]; exact HRO.out
                        · rw [if_neg ej]; exact HRD.out j h4 (by omega)
                    case measure => simp [intOf]; omega
                  · have k2 : decide ((k : Int) < 12) = false := decide_eq_false (by omega)
                    have HFINE := Lib.hid (fun i (hi : i < l4.length) (h : i < 12) => HRD.out i hi (by omega))
                    have hcl := closed_ok (err := err) (HI5.out.same HL4.out HTC.out) hTT hCC (by omega) (by rw [HL4.out]; exact hlp) (by rw [HL4.out]; exact hl13) HFINE.out
                    have HCL := Lib.hid hcl
                    have nR := (HBE.out.block R (by omega)).trans HRES.out
                    have lR := (Array.getElem?_eq_some_iff.1 nR).1
                    have r0 : wr.cell? ⟨R, 0, none⟩ = some (.slice none 0 0) := by simp [World.cell?, nR]
                    have r1 : wr.cell? ⟨R, 1, none⟩ = some (.int .i64 0) := by simp [World.cell?, nR]
                    have r2 : wr.cell? ⟨R, 2, none⟩ = some (.int .i64 0) := by simp [World.cell?, nR]
                    have r3 : wr.frozen? ⟨R, 0, none⟩ = false := by simp [World.frozen?, nR]
                    have r4 : wr.frozen? ⟨R, 1, none⟩ = false := by simp [World.frozen?, nR]
                    have r5 : wr.frozen? ⟨R, 2, none⟩ = false := by simp [World.frozen?, nR]
                    have x1 : wr.cell? ⟨Bn, 1, none⟩ = some (.int .i64 (t : Int)) := by have := HNET.out; simp [World.cell?, this]
                    have x2 : wr.cell? ⟨Bn, 2, none⟩ = some (.int .i64 (c : Int)) := by have := HNET.out; simp [World.cell?, this]
                    have NR := Lib.hid nR
                    clear hcl nR
                    go_wp2_with fail
                    have hout : (((wr.setCell ⟨R, 0, none⟩ (.slice (some ⟨g1, 0, none⟩) l.length cas)).setCell ⟨R, 1, none⟩ (.int .i64 (t : Int))).setCell ⟨R, 2, none⟩ (.int .i64 (c : Int))).heap[R]? = some (.cells #[.slice (some ⟨g1, 0, none⟩) l.length cas, .int .i64 (t : Int), .int .i64 (c : Int)] 24 (0, 0)) := by have := NR.out; simp [World.setCell, Array.getElem?_modify, this]
                    have hoo : ∀ j, j ≠ R → (((wr.setCell ⟨R, 0, none⟩ (.slice (some ⟨g1, 0, none⟩) l.length cas)).setCell ⟨R, 1, none⟩ (.int .i64 (t : Int))).setCell ⟨R, 2, none⟩ (.int .i64 (c : Int))).heap[j]? = wr.heap[j]? := fun j hj => (Below.heap_setCell _ _ _ _ hj).trans ((Below.heap_setCell _ _ _ _ hj).trans (Below.heap_setCell _ _ _ _ hj))
                    have hbb := (((HWX.out _ HBE.out).setCell (p := ⟨R, 0, none⟩) (by show w.heap.size ≤ R; omega) (.slice (some ⟨g1, 0, none⟩) l.length cas)).setCell (p := ⟨R, 1, none⟩) (by show w.heap.size ≤ R; omega) (.int .i64 (t : Int))).setCell (p := ⟨R, 2, none⟩) (by show w.heap.size ≤ R; omega) (.int .i64 (c : Int))
                    have hzz : (((wr.setCell ⟨R, 0, none⟩ (.slice (some ⟨g1, 0, none⟩) l.length cas)).setCell ⟨R, 1, none⟩ (.int .i64 (t : Int))).setCell ⟨R, 2, none⟩ (.int .i64 (c : Int))).heap.size = wr.heap.size := by simp
                    have hoss : (((wr.setCell ⟨R, 0, none⟩ (.slice (some ⟨g1, 0, none⟩) l.length cas)).setCell ⟨R, 1, none⟩ (.int .i64 (t : Int))).setCell ⟨R, 2, none⟩ (.int .i64 (c : Int))).os = wr.os ∧ (((wr.setCell ⟨R, 0, none⟩ (.slice (some ⟨g1, 0, none⟩) l.length cas)).setCell ⟨R, 1, none⟩ (.int .i64 (t : Int))).setCell ⟨R, 2, none⟩ (.int .i64 (c : Int))).tape = wr.tape ∧ (((wr.setCell ⟨R, 0, none⟩ (.slice (some ⟨g1, 0, none⟩) l.length cas)).setCell ⟨R, 1, none⟩ (.int .i64 (t : Int))).setCell ⟨R, 2, none⟩ (.int .i64 (c : Int))).output = wr.output := ⟨rfl, rfl, rfl⟩
                    generalize ((wr.setCell ⟨R, 0, none⟩ (.slice (some ⟨g1, 0, none⟩) l.length cas)).setCell ⟨R, 1, none⟩ (.int .i64 (t : Int))).setCell ⟨R, 2, none⟩ (.int .i64 (c : Int)) = wF at hout hoo hbb hzz hoss ⊢
                    have q0 : wF.cell? ⟨R, 0, none⟩ = some (.slice (some ⟨g1, 0, none⟩) l.length cas) := by simp [World.cell?, hout]
                    have q1 : wF.cell? ⟨R, 1, none⟩ = some (.int .i64 (t : Int)) := by simp [World.cell?, hout]
                    have q2 : wF.cell? ⟨R, 2, none⟩ = some (.int .i64 (c : Int)) := by simp [World.cell?, hout]
                    have htF := IntsAt.of_own (HTR.out.kept (row := some R) (w' := wF) ⟨hoss.1, hoss.2.1, hoss.2.2, by omega, fun j _ hj => hoo j (fun e => hj (by rw [e]))⟩ (by
                      cases hv : ((.slice At xs.length ct) : Value).ownBlock with
                      | none => exact .inl rfl
                      | some j => right; intro e; have := HTR.out.lt j hv; cases e; omega))
                    have haF := (HROW.out.of_block (hoo g1 (by omega))).angs
                    refine bodyPost_ret (v := .tuple #[.agg #[.slice (some ⟨g1, 0, none⟩) l.length cas, .int .i64 (t : Int), .int .i64 (c : Int)], (.slice At xs.length ct)]) (by simp [results, Try.results45, go_sem, q0, q1, q2]) rfl ?_
                    exact ⟨hbb, some ⟨g1, 0, none⟩, cas, t, c, (.slice At xs.length ct), l4, xs, by rw [HL4.out], haF, htF, ⟨_, rfl⟩, HCL.out⟩
                · have k1 : decide ((k : Int) < (l.length : Int)) = false := decide_eq_false (by omega)
                  have HFINE := Lib.hid (fun i (hi : i < l4.length) (h : i < 12) => HRD.out i hi (by have := HL4.out; omega))
                  have hcl := closed_ok (err := err) (HI5.out.same HL4.out HTC.out) hTT hCC (by omega) (by rw [HL4.out]; exact hlp) (by rw [HL4.out]; exact hl13) HFINE.out
                  have HCL := Lib.hid hcl
                  have nR := (HBE.out.block R (by omega)).trans HRES.out
                  have lR := (Array.getElem?_eq_some_iff.1 nR).1
                  have r0 : wr.cell? ⟨R, 0, none⟩ = some (.slice none 0 0) := by simp [World.cell?, nR]
                  have r1 : wr.cell? ⟨R, 1, none⟩ = some (.int .i64 0) := by simp [World.cell?, nR]
                  have r2 : wr.cell? ⟨R, 2, none⟩ = some (.int .i64 0) := by simp [World.cell?, nR]
                  have r3 : wr.frozen? ⟨R, 0, none⟩ = false := by simp [World.frozen?, nR]
                  have r4 : wr.frozen? ⟨R, 1, none⟩ = false := by simp [World.frozen?, nR]
                  have r5 : wr.frozen? ⟨R, 2, none⟩ = false := by simp [World.frozen?, nR]
                  have x1 : wr.cell? ⟨Bn, 1, none⟩ = some (.int .i64 (t : Int)) := by have := HNET.out; simp [World.cell?, this]
                  have x2 : wr.cell? ⟨Bn, 2, none⟩ = some (.int .i64 (c : Int)) := by have := HNET.out; simp [World.cell?, this]
                  have NR := Lib.hid nR
                  clear hcl nR
                  go_wp2_with fail
                  have hout : (((wr.setCell ⟨R, 0, none⟩ (.slice (some ⟨g1, 0, none⟩) l.length cas)).setCell ⟨R, 1, none⟩ (.int .i64 (t : Int))).setCell ⟨R, 2, none⟩ (.int .i64 (c : Int))).heap[R]? = some (.cells #[.slice (some ⟨g1, 0, none⟩) l.length cas, .int .i64 (t : Int), .int .i64 (c : Int)] 24 (0, 0)) := by have := NR.out; simp [World.setCell, Array.getElem?_modify, this]
                  have hoo : ∀ j, j ≠ R → (((wr.setCell ⟨R, 0, none⟩ (.slice (some ⟨g1, 0, none⟩) l.length cas)).setCell ⟨R, 1, none⟩ (.int .i64 (t : Int))).setCell ⟨R, 2, none⟩ (.int .i64 (c : Int))).heap[j]? = wr.heap[j]? := fun j hj => (Below.heap_setCell _ _ _ _ hj).trans ((Below.heap_setCell _ _ _ _ hj).trans (Below.heap_setCell _ _ _ _ hj))
                  have hbb := (((HWX.out _ HBE.out).setCell (p := ⟨R, 0, none⟩) (by show w.heap.size ≤ R; omega) (.slice (some ⟨g1, 0, none⟩) l.length cas)).setCell (p := ⟨R, 1, none⟩) (by show w.heap.size ≤ R; omega) (.int .i64 (t : Int))).setCell (p := ⟨R, 2, none⟩) (by show w.heap.size ≤ R; omega) (.int .i64 (c : Int))
                  have hzz : (((wr.setCell ⟨R, 0, none⟩ (.slice (some ⟨g1, 0, none⟩) l.length cas)).setCell ⟨R, 1, none⟩ (.int .i64 (t : Int))).setCell ⟨R, 2, none⟩ (.int .i64 (c : Int))).heap.size = wr.heap.size := by simp
                  have hoss : (((wr.setCell ⟨R, 0, none⟩ (.slice (some ⟨g1, 0, none⟩) l.length cas)).setCell ⟨R, 1, none⟩ (.int .i64 (t : Int))).setCell ⟨R, 2, none⟩ (.int .i64 (c : Int))).os = wr.os ∧ (((wr.setCell ⟨R, 0, none⟩ (.slice (some ⟨g1, 0, none⟩) l.length cas)).setCell ⟨R, 1, none⟩ (.int .i64 (t : Int))).setCell ⟨R, 2, none⟩ (.int .i64 (c : Int))).tape = wr.tape ∧ (((wr.setCell ⟨R, 0, none⟩ (.slice (some ⟨g1, 0, none⟩) l.length cas)).setCell ⟨R, 1, none⟩ (.int .i64 (t : Int))).setCell ⟨R, 2, none⟩ (.int .i64 (c : Int))).output = wr.output := ⟨rfl, rfl, rfl⟩
                  generalize ((wr.setCell ⟨R, 0, none⟩ (.slice (some ⟨g1, 0, none⟩) l.length cas)).setCell ⟨R, 1, none⟩ (.int .i64 (t : Int))).setCell ⟨R, 2, none⟩ (.int .i64 (c : Int)) = wF at hout hoo hbb hzz hoss ⊢
                  have q0 : wF.cell? ⟨R, 0, none⟩ = some (.slice (some ⟨g1, 0, none⟩) l.length cas) := by simp [World.cell?, hout]
                  have q1 : wF.cell? ⟨R, 1, none⟩ = some (.int .i64 (t : Int)) := by simp [World.cell?, hout]
                  have q2 : wF.cell? ⟨R, 2, none⟩ = some (.int .i64 (c : Int)) := by simp [World.cell?, hout]
                  have htF := IntsAt.of_own (HTR.out.kept (row := some R) (w' := wF) ⟨hoss.1, hoss.2.1, hoss.2.2, by omega, fun j _ hj => hoo j (fun e => hj (by rw [e]))⟩ (by
                    cases hv : ((.slice At xs.length ct) : Value).ownBlock with
                    | none => exact .inl rfl
                    | some j => right; intro e; have := HTR.out.lt j hv; cases e; omega))
                  have haF := (HROW.out.of_block (hoo g1 (by omega))).angs
                  refine bodyPost_ret (v := .tuple #[.agg #[.slice (some ⟨g1, 0, none⟩) l.length cas, .int .i64 (t : Int), .int .i64 (c : Int)], (.slice At xs.length ct)]) (by simp [results, Try.results45, go_sem, q0, q1, q2]) rfl ?_
                  exact ⟨hbb, some ⟨g1, 0, none⟩, cas, t, c, (.slice At xs.length ct), l4, xs, by rw [HL4.out], haF, htF, ⟨_, rfl⟩, HCL.out⟩
end Go.Proofs.Ytkloaeaepjoijaa

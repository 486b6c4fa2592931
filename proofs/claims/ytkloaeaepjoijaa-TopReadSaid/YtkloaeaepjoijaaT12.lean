/-
  What a tired reader reads: word, Misread.
-/
import Derived.Test.YtkloaeaepjoijaaT01
import Derived.Test.YtkloaeaepjoijaaT02
import Derived.Test.YtkloaeaepjoijaaT11
set_option linter.all false
namespace Go.Proofs.Ytkloaeaepjoijaa
open Go.RowKit Go.WalkArith
theorem word2_any (v : Value) (ws : List Int) (k : Nat) (w : World) (hw : WordsAt w v ws) (hn : ws.length ≤ 9223372036854775807) (hk : k ≤ 1000) :
    Calls Try.prog 85 #[v, .int .i64 k] w (WordPost w) := by
  obtain ⟨A, cap, rfl, h0, hc⟩ := hw
  by_cases hz : ws.length = 0
  · have hb : ((ws.length : Int) == 0) = true := by simp [hz]
    clear hz h0 hc
    go_enter Try.func85, Try.ntmps85
    go_wp2_with fail
    go_ret
    exact ⟨0, rfl, by omega, by omega, rfl⟩
  · have hb : ((ws.length : Int) == 0) = false := by simpa using hz
    obtain ⟨b, o, rfl, hd⟩ := hc.resolve_left (fun h => by rw [h] at hz; simp at hz)
    have hlt : k % ws.length < ws.length := Nat.mod_lt _ (by omega)
    have ck := hd _ hlt
    have hr := h0 ws[k % ws.length] (List.getElem_mem hlt)
    obtain ⟨x, hx⟩ : ∃ x, ws[k % ws.length] = x := ⟨_, rfl⟩
    rw [hx] at ck hr
    obtain ⟨i, hi⟩ : ∃ i, k % ws.length = i := ⟨_, rfl⟩
    rw [hi] at ck hlt
    have e1 : (k : Int) % (ws.length : Int) = (i : Int) := by rw [← hi]; rfl
    have e2 : (k : Int).tmod (ws.length : Int) = (i : Int) := by rw [Int.tmod_eq_emod_of_nonneg (by omega)]; exact e1
    have i1 : (0 : Int) ≤ (i : Int) := by omega
    have i2 : (i : Int) < (ws.length : Int) := by omega
    have p1 : 1 ≤ (ws.length : Int) := by omega
    have r0 := hr.1
    have r1 := hr.2
    clear hx hi hc hd h0 hz hr
    go_enter Try.func85, Try.ntmps85
    go_wp2_with fail
    go_ret
    exact ⟨x, rfl, r0, r1, rfl⟩
/-- What has been read so far, of what was sent: so many errors, so many steps. -/
def MS (s0 S R : ByteArray) (c a : Nat) : Prop := ∃ u, nl s0 = u ++ nl S ∧ Ex u (nl R) c ∧ a ≤ u.length + c
theorem nl_lit (a : Array UInt8) : nl ⟨a⟩ = a.toList.map UInt8.toNat := by unfold nl; rw [ByteArray.toList_eq]
theorem MS.start (s0 : ByteArray) : MS s0 s0 ⟨#[]⟩ 0 0 := ⟨[], rfl, by rw [nl_lit]; exact .nil, by simp⟩
section
variable {s0 S R L W : ByteArray} {c a x : Nat}
theorem MS.copy (h : MS s0 S R c a) (hs : nl S = x :: nl L) (hw : nl W = [x]) : MS s0 L (R ++ W) c (a + 1) := by
  obtain ⟨u, h1, h2, h3⟩ := h
  exact ⟨u ++ [x], by rw [h1, hs]; simp, by rw [nl_app, hw]; exact .copy x h2, by simp; omega⟩
theorem MS.miss (h : MS s0 S R c a) (hs : nl S = x :: nl L) : MS s0 L (R ++ ⟨#[]⟩) (c + 1) (a + 1) := by
  obtain ⟨u, h1, h2, h3⟩ := h
  exact ⟨u ++ [x], by rw [h1, hs]; simp, by rw [nl_app, show nl ⟨#[]⟩ = [] from by rw [nl_lit]; rfl, List.append_nil]; exact .miss x h2, by simp; omega⟩
theorem MS.split (h : MS s0 S R c a) (hs : nl S = 45 :: nl L) : MS s0 L (R ++ ⟨#[46, 46]⟩) (c + 1) (a + 1) := by
  obtain ⟨u, h1, h2, h3⟩ := h
  exact ⟨u ++ [45], by rw [h1, hs]; simp, by rw [nl_app, show nl ⟨#[46, 46]⟩ = [46, 46] from by rw [nl_lit]; rfl]; exact .split h2, by simp; omega⟩
theorem MS.join (h : MS s0 S R c a) (hs : nl S = 46 :: 46 :: nl L) : MS s0 L (R ++ ⟨#[45]⟩) (c + 1) (a + 1) := by
  obtain ⟨u, h1, h2, h3⟩ := h
  exact ⟨u ++ [46, 46], by rw [h1, hs]; simp, by rw [nl_app, show nl ⟨#[45]⟩ = [45] from by rw [nl_lit]; rfl]; exact .join h2, by simp; omega⟩
theorem MS.gap (h : MS s0 S R c a) (hs : nl S = nl L) : MS s0 L (R ++ ⟨#[32]⟩) (c + 1) (a + 1) := by
  obtain ⟨u, h1, h2, h3⟩ := h
  exact ⟨u, by rw [h1, hs], by rw [nl_app, show nl ⟨#[32]⟩ = [32] from by rw [nl_lit]; rfl]; exact .gap h2, by omega⟩
theorem MS.bd (h : MS s0 S R c a) : S.size ≤ s0.size ∧ R.size ≤ s0.size + c ∧ a ≤ s0.size + c := by
  obtain ⟨u, h1, h2, h3⟩ := h
  have h4 := congrArg List.length h1
  rw [nl_len, List.length_append, nl_len] at h4
  have h5 := ex_len h2
  rw [nl_len] at h5
  omega
theorem MS.done (h : MS s0 S R c a) (hs : S.size = 0) : Ex (nl s0) (nl R) c := by
  obtain ⟨u, h1, h2, h3⟩ := h
  rw [(nl_zero S).2 hs, List.append_nil] at h1
  rw [h1]; exact h2
end
def strLen : Value → Nat
  | .string s => s.size
  | _ => 0
def MisRel (s0 : ByteArray) (k : Nat) (w : World) (sent er out st at_ : Value) (wr : World) : Prop :=
  ∃ (S R : ByteArray) (c d a : Nat) (xs : List Int) (sA : Option Addr) (sn sc : Nat), sent = .string S ∧ er = .int .i64 (d : Int) ∧ c + d = k ∧ out = .string R ∧ at_ = .int .i64 (a : Nat) ∧ MS s0 S R c a ∧ st = .slice sA sn sc ∧ wr.ownsRow w.heap.size 3 1 (.slice sA sn sc) xs.length (xs.map (Value.int .i64)) ∧ xs.length ≤ a ∧ Below w.heap.size w wr
def MisPost (s0 : ByteArray) (k : Nat) (w : World) (e : Ending) (w' : World) : Prop :=
  ∃ (R : ByteArray) (v : Value) (c : Nat), e = .returned (.tuple #[.string R, v]) ∧ c ≤ k ∧ Ex (nl s0) (nl R) c ∧ Below w.heap.size w w'
set_option maxRecDepth 100000 in
set_option maxHeartbeats 8000000 in
theorem misread_any (s0 : ByteArray) (v : Value) (ws : List Int) (k : Nat) (w : World) (hs0 : s0.size ≤ 100) (hk : k ≤ 3) (hw : WordsAt w v ws) (hn : ws.length ≤ 9223372036854775807) :
    Calls Try.prog 53 #[.string s0, v, .int .i64 k] w (MisPost s0 k w) := by
  have HW := Lib.hid hw
  clear hw
  go_enter Try.func53, Try.ntmps53
  go_wp2_with fail
  go_loopw [0, 2, 8, 9, 10] (MisRel s0 k w) (fun s e _ _ _ _ => strLen s + (intOf e).toNat)
  case atStart => exact ⟨s0, ⟨#[]⟩, 0, k, 0, [], _, _, _, rfl, rfl, by omega, rfl, rfl, MS.start s0, rfl, World.ownsRow_nil _ _ _ _, by simp, Below.refl _ _⟩
  case round =>
    obtain ⟨S, R, c, d, a, xs, sA, sn, sc, rfl, rfl, hck, rfl, rfl, hms, rfl, hown, hxs, hbe⟩ := hrel
    have hbd := hms.bd
    have hxl : xs.length ≤ 1000000 := by omega
    have HCK := Lib.hid hck
    have HM := Lib.hid hms
    have HO := Lib.hid hown
    have HXL := Lib.hid hxl
    have HXS := Lib.hid hxs
    have HBE := Lib.hid hbe
    have HBS := Lib.hid hbe.size
    have hbeX := hbe
    clear hms hown hxs hbe hxl
    by_cases h0 : S.size = 0
    · obtain rfl : S = ⟨#[]⟩ := by
        obtain ⟨⟨l⟩⟩ := S
        have : l = [] := List.length_eq_zero_iff.1 h0
        rw [this]
      have HZ := Lib.hid h0
      clear h0
      go_wp2_with fail
      go_ret2
      exact ⟨R, _, c, rfl, by omega, HM.out.done HZ.out, HBE.out⟩
    · have h0 : 0 < S.size := Nat.pos_of_ne_zero h0
      have e0 : (S.toList != []) = true := by
        rw [bne_iff_ne]
        intro h
        have := (nl_zero S).1 (by unfold nl; rw [h]; rfl)
        omega
      have e2 : S.toList.isEmpty = false := by
        rw [List.isEmpty_eq_false_iff]
        rwa [bne_iff_ne] at e0
      have e3 : (!S.toList.isEmpty) = true := by rw [e2]; rfl
      obtain ⟨x0, x256, _, hsc⟩ := nl_cons h0
      have HSC := Lib.hid hsc
      have HWN := Lib.hid (show nl (S.extract 0 1) = [x0] by rw [nl_ext, hsc]; rfl)
      have hw1 : (S.extract 0 1).size = 1 := by rw [← nl_len, nl_ext, hsc]; rfl
      have s1 : ¬ (9223372036854775807 < R.size + (S.extract 0 1).size) := by omega
      have s2 : ¬ (9223372036854775807 < R.size + (⟨#[]⟩ : ByteArray).size) := by simp only [ByteArray.size, Array.size]; simp; omega
      have s3 : ¬ (9223372036854775807 < R.size + 2) := by omega
      have s4 : ¬ (9223372036854775807 < R.size + 1) := by omega
      have s5 : ¬ (9223372036854775807 < R.size) := by omega
      have HWD := Lib.hid (word2_any v ws a wr (HW.out.keep hbeX (Nat.le_refl _)) hn (by omega))
      have ha9 : a ≤ 1000 := by omega
      clear hsc x256 hw1 hbd
      go_wp2_with fail
      refine HWD.out.mono ?_
      rintro e w' ⟨x, rfl, hx0, hx1, rfl⟩
      clear HWD
      by_cases h3 : x % 3 = 0
      · have q3 : ((x % 3 : Int) == 0) = true := by simpa using h3
        clear h3
        by_cases hd : d = 0
        · subst hd
          have ixk : ∀ X, (Instr.index 127 (.agg #[.string (S.extract 0 1), .string ⟨#[]⟩, .string ⟨#[46, 46]⟩, .string ⟨#[45]⟩, .string ⟨#[]⟩, .string ⟨#[32]⟩]) (.int .i64 0)).run Try.prog X = .ok (.string (S.extract 0 1)) X := fun _ => by kernel_rfl
          have p1 : (1 : Int) ≤ (S.size : Int) := by omega
          go_wp2_with fail
          clear ixk
          refine (step0_any S h0 _).mono ?_
          rintro e w3 ⟨l, r, b, rfl, hb1, hb2⟩
          have HB3 := Lib.hid (HBE.out.trans (hb2.mono HBE.out.size))
          have HO3 := Lib.hid (HO.out.kept (row := none) ⟨hb2.os, hb2.tape, hb2.output, hb2.size, fun j hj _ => hb2.block j hj⟩ (own_none _))
          have HBS3 := Lib.hid (Nat.le_trans HBS.out hb2.size)
          clear hb2
          cases b with
          | true =>
            obtain ⟨x1, hx1⟩ := hb1 rfl
            have hx2 : x1 = x0 := by have := hx1.symm.trans HSC.out; simp at this; exact this.1
            subst hx2
            have hszz := congrArg List.length hx1
            have hm2 := HM.out.copy hx1 HWN.out
            have hme : strLen (.string l) + (intOf (.int .i64 ((0 : Nat) : Int))).toNat < strLen (.string S) + (intOf (.int .i64 ((0 : Nat) : Int))).toNat := by
              simp only [strLen, intOf]
              simp only [List.length_cons, nl_len] at hszz
              omega
            clear hb1 hszz hx1
            have HBS4 := Lib.hid (show w.heap.size ≤ (w3.alloc (.cells #[.int .i64 0] 3)).heap.size by have := HBS3.out; simp; omega)
            have HM2 := Lib.hid hm2
            have HME := Lib.hid hme
            clear hm2 hme
            go_wp2_with (at_builtin; refine wpList_app_int rfl _ _ rfl w.heap.size (.slice sA sn sc) xs 0 w3.heap.size rfl (HO3.out.alloc _) rfl (Go.heap_alloc_new w3 _) HXL.out HBS4.out ?_)
            intro g7 c7 w7 hown7 hgr7 _
            have hown8 : w7.ownsRow w.heap.size 3 1 (.slice (some ⟨g7, 0, none⟩) (xs.length + 1) c7) (xs ++ [(0 : Int)]).length ((xs ++ [(0 : Int)]).map (Value.int .i64)) := by
              rw [List.map_append, List.length_append]; exact hown7
            have HO7 := Lib.hid hown8
            have HB7 := Lib.hid ((HB3.out.alloc HBS3.out _).grown hgr7 HBS4.out (fun q hq => (HO3.out.lt q hq).1))
            have HX7 := Lib.hid (show (xs ++ [(0 : Int)]).length ≤ a + 1 by have := HXS.out; simp; omega)
            clear hown7 hown8 hgr7 HO3 HB3
            go_wp2_with fail
            refine (cost_any 0 _).mono ?_
            rintro e w' ⟨rfl, rfl⟩
            go_wp2_with fail
            go_roundw
            case rel => exact ⟨_, _, c, 0, a + 1, _, _, _, _, rfl, by first | rfl | go_num, by have := HCK.out; omega, rfl, by go_num, HM2.out, rfl, HO7.out, HX7.out, HB7.out⟩
            case measure => exact HME.out
          | false =>
            clear hb1
            go_upto_region 13 with fail
            go_region_held3 (fun X => True) (trivial) (fail)
            have HO3 := Lib.hid HO3.out.drew
            have HB3 := Lib.hid HB3.out.drew
            have HBS3 := Lib.hid (show w.heap.size ≤ w3.drew.heap.size from HBS3.out)
            have hm2 := HM.out.copy HSC.out HWN.out
            have hme : strLen (.string (S.extract 1 S.size)) + (intOf (.int .i64 ((0 : Nat) : Int))).toNat < strLen (.string S) + (intOf (.int .i64 ((0 : Nat) : Int))).toNat := by
              have hszz := congrArg List.length HSC.out
              simp only [strLen, intOf]
              simp only [List.length_cons, nl_len] at hszz
              omega
            go_upto_region 14 with fail
            generalize w3.drew = w4 at HO3 HB3 HBS3 ⊢
            have HBS4 := Lib.hid (show w.heap.size ≤ (w4.alloc (.cells #[.int .i64 0] 3)).heap.size by have := HBS3.out; simp; omega)
            have HM2 := Lib.hid hm2
            have HME := Lib.hid hme
            clear hm2 hme
            go_wp2_with (at_builtin; refine wpList_app_int rfl _ _ rfl w.heap.size (.slice sA sn sc) xs 0 w4.heap.size rfl (HO3.out.alloc _) rfl (Go.heap_alloc_new w4 _) HXL.out HBS4.out ?_)
            intro g7 c7 w7 hown7 hgr7 _
            have hown8 : w7.ownsRow w.heap.size 3 1 (.slice (some ⟨g7, 0, none⟩) (xs.length + 1) c7) (xs ++ [(0 : Int)]).length ((xs ++ [(0 : Int)]).map (Value.int .i64)) := by
              rw [List.map_append, List.length_append]; exact hown7
            have HO7 := Lib.hid hown8
            have HB7 := Lib.hid ((HB3.out.alloc HBS3.out _).grown hgr7 HBS4.out (fun q hq => (HO3.out.lt q hq).1))
            have HX7 := Lib.hid (show (xs ++ [(0 : Int)]).length ≤ a + 1 by have := HXS.out; simp; omega)
            clear hown7 hown8 hgr7 HO3 HB3
            go_wp2_with fail
            refine (cost_any 0 _).mono ?_
            rintro e w' ⟨rfl, rfl⟩
            go_wp2_with fail
            go_roundw
            case rel => exact ⟨_, _, c, 0, a + 1, _, _, _, _, rfl, by first | rfl | go_num, by have := HCK.out; omega, rfl, by go_num, HM2.out, rfl, HO7.out, HX7.out, HB7.out⟩
            case measure => exact HME.out
        · obtain ⟨d1, rfl⟩ : ∃ d1, d = d1 + 1 := ⟨d - 1, by omega⟩
          rw [show (((d1 + 1 : Nat)) : Int) = (d1 : Int) + 1 from by omega]
          have q4 : decide ((0 : Int) < (d1 : Int) + 1) = true := decide_eq_true (by omega)
          have hj0 : 0 ≤ x / 4 % 5 ∧ x / 4 % 5 ≤ 4 := by omega
          obtain ⟨j, hj⟩ : ∃ j, x / 4 % 5 = j := ⟨_, rfl⟩
          rw [hj] at hj0
          rcases (show j = 0 ∨ j = 1 ∨ j = 2 ∨ j = 3 ∨ j = 4 by omega) with rfl | rfl | rfl | rfl | rfl
          · clear hj0
            have ixk : ∀ X, (Instr.index 127 (.agg #[.string (S.extract 0 1), .string ⟨#[]⟩, .string ⟨#[46, 46]⟩, .string ⟨#[45]⟩, .string ⟨#[]⟩, .string ⟨#[32]⟩]) (.int .i64 1)).run Try.prog X = .ok (.string (⟨#[]⟩)) X := fun _ => by kernel_rfl
            have p1 : (1 : Int) ≤ (S.size : Int) := by omega
            go_wp2_with fail
            clear ixk
            refine (step1_any S h0 _).mono ?_
            rintro e w3 ⟨l, r, b, rfl, hb1, hb2⟩
            have HB3 := Lib.hid (HBE.out.trans (hb2.mono HBE.out.size))
            have HO3 := Lib.hid (HO.out.kept (row := none) ⟨hb2.os, hb2.tape, hb2.output, hb2.size, fun j hj _ => hb2.block j hj⟩ (own_none _))
            have HBS3 := Lib.hid (Nat.le_trans HBS.out hb2.size)
            clear hb2
            cases b with
            | true =>
              obtain ⟨x1, hx1⟩ := hb1 rfl
              have hszz := congrArg List.length hx1
              have hm2 := HM.out.miss hx1
              have hme : strLen (.string l) + (intOf (.int .i64 (d1 : Int))).toNat < strLen (.string S) + (intOf (.int .i64 ((d1 : Int) + 1))).toNat := by
                simp only [strLen, intOf]
                simp only [List.length_cons, nl_len] at hszz
                omega
              clear hb1 hszz hx1
              have HBS4 := Lib.hid (show w.heap.size ≤ (w3.alloc (.cells #[.int .i64 1] 3)).heap.size by have := HBS3.out; simp; omega)
              have HM2 := Lib.hid hm2
              have HME := Lib.hid hme
              clear hm2 hme
              go_wp2_with (at_builtin; refine wpList_app_int rfl _ _ rfl w.heap.size (.slice sA sn sc) xs 1 w3.heap.size rfl (HO3.out.alloc _) rfl (Go.heap_alloc_new w3 _) HXL.out HBS4.out ?_)
              intro g7 c7 w7 hown7 hgr7 _
              have hown8 : w7.ownsRow w.heap.size 3 1 (.slice (some ⟨g7, 0, none⟩) (xs.length + 1) c7) (xs ++ [(1 : Int)]).length ((xs ++ [(1 : Int)]).map (Value.int .i64)) := by
                rw [List.map_append, List.length_append]; exact hown7
              have HO7 := Lib.hid hown8
              have HB7 := Lib.hid ((HB3.out.alloc HBS3.out _).grown hgr7 HBS4.out (fun q hq => (HO3.out.lt q hq).1))
              have HX7 := Lib.hid (show (xs ++ [(1 : Int)]).length ≤ a + 1 by have := HXS.out; simp; omega)
              clear hown7 hown8 hgr7 HO3 HB3
              go_wp2_with fail
              refine (cost_any 1 _).mono ?_
              rintro e w' ⟨rfl, rfl⟩
              go_wp2_with fail
              go_roundw
              case rel => exact ⟨_, _, c + 1, d1, a + 1, _, _, _, _, rfl, by first | rfl | go_num, by have := HCK.out; omega, rfl, by go_num, HM2.out, rfl, HO7.out, HX7.out, HB7.out⟩
              case measure => exact HME.out
            | false =>
              clear hb1
              go_upto_region 13 with fail
              go_region_held3 (fun X => True) (trivial) (fail)
              have HO3 := Lib.hid HO3.out.drew
              have HB3 := Lib.hid HB3.out.drew
              have HBS3 := Lib.hid (show w.heap.size ≤ w3.drew.heap.size from HBS3.out)
              have hm2 := HM.out.copy HSC.out HWN.out
              have hme : strLen (.string (S.extract 1 S.size)) + (intOf (.int .i64 ((d1 : Int) + 1))).toNat < strLen (.string S) + (intOf (.int .i64 ((d1 : Int) + 1))).toNat := by
                have hszz := congrArg List.length HSC.out
                simp only [strLen, intOf]
                simp only [List.length_cons, nl_len] at hszz
                omega
              go_upto_region 14 with fail
              generalize w3.drew = w4 at HO3 HB3 HBS3 ⊢
              have HBS4 := Lib.hid (show w.heap.size ≤ (w4.alloc (.cells #[.int .i64 0] 3)).heap.size by have := HBS3.out; simp; omega)
              have HM2 := Lib.hid hm2
              have HME := Lib.hid hme
              clear hm2 hme
              go_wp2_with (at_builtin; refine wpList_app_int rfl _ _ rfl w.heap.size (.slice sA sn sc) xs 0 w4.heap.size rfl (HO3.out.alloc _) rfl (Go.heap_alloc_new w4 _) HXL.out HBS4.out ?_)
              intro g7 c7 w7 hown7 hgr7 _
              have hown8 : w7.ownsRow w.heap.size 3 1 (.slice (some ⟨g7, 0, none⟩) (xs.length + 1) c7) (xs ++ [(0 : Int)]).length ((xs ++ [(0 : Int)]).map (Value.int .i64)) := by
                rw [List.map_append, List.length_append]; exact hown7
              have HO7 := Lib.hid hown8
              have HB7 := Lib.hid ((HB3.out.alloc HBS3.out _).grown hgr7 HBS4.out (fun q hq => (HO3.out.lt q hq).1))
              have HX7 := Lib.hid (show (xs ++ [(0 : Int)]).length ≤ a + 1 by have := HXS.out; simp; omega)
              clear hown7 hown8 hgr7 HO3 HB3
              go_wp2_with fail
              refine (cost_any 0 _).mono ?_
              rintro e w' ⟨rfl, rfl⟩
              go_wp2_with fail
              go_roundw
              case rel => exact ⟨_, _, c, d1 + 1, a + 1, _, _, _, _, rfl, by first | rfl | go_num, by have := HCK.out; omega, rfl, by go_num, HM2.out, rfl, HO7.out, HX7.out, HB7.out⟩
              case measure => exact HME.out
          · clear hj0
            have ixk : ∀ X, (Instr.index 127 (.agg #[.string (S.extract 0 1), .string ⟨#[]⟩, .string ⟨#[46, 46]⟩, .string ⟨#[45]⟩, .string ⟨#[]⟩, .string ⟨#[32]⟩]) (.int .i64 2)).run Try.prog X = .ok (.string (⟨#[46, 46]⟩)) X := fun _ => by kernel_rfl
            have p1 : (1 : Int) ≤ (S.size : Int) := by omega
            go_wp2_with fail
            clear ixk
            refine (step2_any S h0 _).mono ?_
            rintro e w3 ⟨l, r, b, rfl, hb1, hb2⟩
            have HB3 := Lib.hid (HBE.out.trans (hb2.mono HBE.out.size))
            have HO3 := Lib.hid (HO.out.kept (row := none) ⟨hb2.os, hb2.tape, hb2.output, hb2.size, fun j hj _ => hb2.block j hj⟩ (own_none _))
            have HBS3 := Lib.hid (Nat.le_trans HBS.out hb2.size)
            clear hb2
            cases b with
            | true =>

              have hszz := congrArg List.length (hb1 rfl)
              have hm2 := HM.out.split (hb1 rfl)
              have hme : strLen (.string l) + (intOf (.int .i64 (d1 : Int))).toNat < strLen (.string S) + (intOf (.int .i64 ((d1 : Int) + 1))).toNat := by
                simp only [strLen, intOf]
                simp only [List.length_cons, nl_len] at hszz
                omega
              clear hb1 hszz
              have HBS4 := Lib.hid (show w.heap.size ≤ (w3.alloc (.cells #[.int .i64 2] 3)).heap.size by have := HBS3.out; simp; omega)
              have HM2 := Lib.hid hm2
              have HME := Lib.hid hme
              clear hm2 hme
              go_wp2_with (at_builtin; refine wpList_app_int rfl _ _ rfl w.heap.size (.slice sA sn sc) xs 2 w3.heap.size rfl (HO3.out.alloc _) rfl (Go.heap_alloc_new w3 _) HXL.out HBS4.out ?_)
              intro g7 c7 w7 hown7 hgr7 _
              have hown8 : w7.ownsRow w.heap.size 3 1 (.slice (some ⟨g7, 0, none⟩) (xs.length + 1) c7) (xs ++ [(2 : Int)]).length ((xs ++ [(2 : Int)]).map (Value.int .i64)) := by
                rw [List.map_append, List.length_append]; exact hown7
              have HO7 := Lib.hid hown8
              have HB7 := Lib.hid ((HB3.out.alloc HBS3.out _).grown hgr7 HBS4.out (fun q hq => (HO3.out.lt q hq).1))
              have HX7 := Lib.hid (show (xs ++ [(2 : Int)]).length ≤ a + 1 by have := HXS.out; simp; omega)
              clear hown7 hown8 hgr7 HO3 HB3
              go_wp2_with fail
              refine (cost_any 2 _).mono ?_
              rintro e w' ⟨rfl, rfl⟩
              go_wp2_with fail
              go_roundw
              case rel => exact ⟨_, _, c + 1, d1, a + 1, _, _, _, _, rfl, by first | rfl | go_num, by have := HCK.out; omega, rfl, by go_num, HM2.out, rfl, HO7.out, HX7.out, HB7.out⟩
              case measure => exact HME.out
            | false =>
              clear hb1
              go_upto_region 13 with fail
              go_region_held3 (fun X => True) (trivial) (fail)
              have HO3 := Lib.hid HO3.out.drew
              have HB3 := Lib.hid HB3.out.drew
              have HBS3 := Lib.hid (show w.heap.size ≤ w3.drew.heap.size from HBS3.out)
              have hm2 := HM.out.copy HSC.out HWN.out
              have hme : strLen (.string (S.extract 1 S.size)) + (intOf (.int .i64 ((d1 : Int) + 1))).toNat < strLen (.string S) + (intOf (.int .i64 ((d1 : Int) + 1))).toNat := by
                have hszz := congrArg List.length HSC.out
                simp only [strLen, intOf]
                simp only [List.length_cons, nl_len] at hszz
                omega
              go_upto_region 14 with fail
              generalize w3.drew = w4 at HO3 HB3 HBS3 ⊢
              have HBS4 := Lib.hid (show w.heap.size ≤ (w4.alloc (.cells #[.int .i64 0] 3)).heap.size by have := HBS3.out; simp; omega)
              have HM2 := Lib.hid hm2
              have HME := Lib.hid hme
              clear hm2 hme
              go_wp2_with (at_builtin; refine wpList_app_int rfl _ _ rfl w.heap.size (.slice sA sn sc) xs 0 w4.heap.size rfl (HO3.out.alloc _) rfl (Go.heap_alloc_new w4 _) HXL.out HBS4.out ?_)
              intro g7 c7 w7 hown7 hgr7 _
              have hown8 : w7.ownsRow w.heap.size 3 1 (.slice (some ⟨g7, 0, none⟩) (xs.length + 1) c7) (xs ++ [(0 : Int)]).length ((xs ++ [(0 : Int)]).map (Value.int .i64)) := by
                rw [List.map_append, List.length_append]; exact hown7
              have HO7 := Lib.hid hown8
              have HB7 := Lib.hid ((HB3.out.alloc HBS3.out _).grown hgr7 HBS4.out (fun q hq => (HO3.out.lt q hq).1))
              have HX7 := Lib.hid (show (xs ++ [(0 : Int)]).length ≤ a + 1 by have := HXS.out; simp; omega)
              clear hown7 hown8 hgr7 HO3 HB3
              go_wp2_with fail
              refine (cost_any 0 _).mono ?_
              rintro e w' ⟨rfl, rfl⟩
              go_wp2_with fail
              go_roundw
              case rel => exact ⟨_, _, c, d1 + 1, a + 1, _, _, _, _, rfl, by first | rfl | go_num, by have := HCK.out; omega, rfl, by go_num, HM2.out, rfl, HO7.out, HX7.out, HB7.out⟩
              case measure => exact HME.out
          · clear hj0
            have ixk : ∀ X, (Instr.index 127 (.agg #[.string (S.extract 0 1), .string ⟨#[]⟩, .string ⟨#[46, 46]⟩, .string ⟨#[45]⟩, .string ⟨#[]⟩, .string ⟨#[32]⟩]) (.int .i64 3)).run Try.prog X = .ok (.string (⟨#[45]⟩)) X := fun _ => by kernel_rfl
            have p1 : (1 : Int) ≤ (S.size : Int) := by omega
            go_wp2_with fail
            clear ixk
            refine (step3_any S h0 _).mono ?_
            rintro e w3 ⟨l, r, b, rfl, hb1, hb2⟩
            have HB3 := Lib.hid (HBE.out.trans (hb2.mono HBE.out.size))
            have HO3 := Lib.hid (HO.out.kept (row := none) ⟨hb2.os, hb2.tape, hb2.output, hb2.size, fun j hj _ => hb2.block j hj⟩ (own_none _))
            have HBS3 := Lib.hid (Nat.le_trans HBS.out hb2.size)
            clear hb2
            cases b with
            | true =>

              have hszz := congrArg List.length (hb1 rfl)
              have hm2 := HM.out.join (hb1 rfl)
              have hme : strLen (.string l) + (intOf (.int .i64 (d1 : Int))).toNat < strLen (.string S) + (intOf (.int .i64 ((d1 : Int) + 1))).toNat := by
                simp only [strLen, intOf]
                simp only [List.length_cons, nl_len] at hszz
                omega
              clear hb1 hszz
              have HBS4 := Lib.hid (show w.heap.size ≤ (w3.alloc (.cells #[.int .i64 3] 3)).heap.size by have := HBS3.out; simp; omega)
              have HM2 := Lib.hid hm2
              have HME := Lib.hid hme
              clear hm2 hme
              go_wp2_with (at_builtin; refine wpList_app_int rfl _ _ rfl w.heap.size (.slice sA sn sc) xs 3 w3.heap.size rfl (HO3.out.alloc _) rfl (Go.heap_alloc_new w3 _) HXL.out HBS4.out ?_)
              intro g7 c7 w7 hown7 hgr7 _
              have hown8 : w7.ownsRow w.heap.size 3 1 (.slice (some ⟨g7, 0, none⟩) (xs.length + 1) c7) (xs ++ [(3 : Int)]).length ((xs ++ [(3 : Int)]).map (Value.int .i64)) := by
                rw [List.map_append, List.length_append]; exact hown7
              have HO7 := Lib.hid hown8
              have HB7 := Lib.hid ((HB3.out.alloc HBS3.out _).grown hgr7 HBS4.out (fun q hq => (HO3.out.lt q hq).1))
              have HX7 := Lib.hid (show (xs ++ [(3 : Int)]).length ≤ a + 1 by have := HXS.out; simp; omega)
              clear hown7 hown8 hgr7 HO3 HB3
              go_wp2_with fail
              refine (cost_any 3 _).mono ?_
              rintro e w' ⟨rfl, rfl⟩
              go_wp2_with fail
              go_roundw
              case rel => exact ⟨_, _, c + 1, d1, a + 1, _, _, _, _, rfl, by first | rfl | go_num, by have := HCK.out; omega, rfl, by go_num, HM2.out, rfl, HO7.out, HX7.out, HB7.out⟩
              case measure => exact HME.out
            | false =>
              clear hb1
              go_upto_region 13 with fail
              go_region_held3 (fun X => True) (trivial) (fail)
              have HO3 := Lib.hid HO3.out.drew
              have HB3 := Lib.hid HB3.out.drew
              have HBS3 := Lib.hid (show w.heap.size ≤ w3.drew.heap.size from HBS3.out)
              have hm2 := HM.out.copy HSC.out HWN.out
              have hme : strLen (.string (S.extract 1 S.size)) + (intOf (.int .i64 ((d1 : Int) + 1))).toNat < strLen (.string S) + (intOf (.int .i64 ((d1 : Int) + 1))).toNat := by
                have hszz := congrArg List.length HSC.out
                simp only [strLen, intOf]
                simp only [List.length_cons, nl_len] at hszz
                omega
              go_upto_region 14 with fail
              generalize w3.drew = w4 at HO3 HB3 HBS3 ⊢
              have HBS4 := Lib.hid (show w.heap.size ≤ (w4.alloc (.cells #[.int .i64 0] 3)).heap.size by have := HBS3.out; simp; omega)
              have HM2 := Lib.hid hm2
              have HME := Lib.hid hme
              clear hm2 hme
              go_wp2_with (at_builtin; refine wpList_app_int rfl _ _ rfl w.heap.size (.slice sA sn sc) xs 0 w4.heap.size rfl (HO3.out.alloc _) rfl (Go.heap_alloc_new w4 _) HXL.out HBS4.out ?_)
              intro g7 c7 w7 hown7 hgr7 _
              have hown8 : w7.ownsRow w.heap.size 3 1 (.slice (some ⟨g7, 0, none⟩) (xs.length + 1) c7) (xs ++ [(0 : Int)]).length ((xs ++ [(0 : Int)]).map (Value.int .i64)) := by
                rw [List.map_append, List.length_append]; exact hown7
              have HO7 := Lib.hid hown8
              have HB7 := Lib.hid ((HB3.out.alloc HBS3.out _).grown hgr7 HBS4.out (fun q hq => (HO3.out.lt q hq).1))
              have HX7 := Lib.hid (show (xs ++ [(0 : Int)]).length ≤ a + 1 by have := HXS.out; simp; omega)
              clear hown7 hown8 hgr7 HO3 HB3
              go_wp2_with fail
              refine (cost_any 0 _).mono ?_
              rintro e w' ⟨rfl, rfl⟩
              go_wp2_with fail
              go_roundw
              case rel => exact ⟨_, _, c, d1 + 1, a + 1, _, _, _, _, rfl, by first | rfl | go_num, by have := HCK.out; omega, rfl, by go_num, HM2.out, rfl, HO7.out, HX7.out, HB7.out⟩
              case measure => exact HME.out
          · clear hj0
            have ixk : ∀ X, (Instr.index 127 (.agg #[.string (S.extract 0 1), .string ⟨#[]⟩, .string ⟨#[46, 46]⟩, .string ⟨#[45]⟩, .string ⟨#[]⟩, .string ⟨#[32]⟩]) (.int .i64 4)).run Try.prog X = .ok (.string (⟨#[]⟩)) X := fun _ => by kernel_rfl
            have p1 : (1 : Int) ≤ (S.size : Int) := by omega
            go_wp2_with fail
            clear ixk
            refine (step4_any S h0 _).mono ?_
            rintro e w3 ⟨l, r, b, rfl, hb1, hb2⟩
            have HB3 := Lib.hid (HBE.out.trans (hb2.mono HBE.out.size))
            have HO3 := Lib.hid (HO.out.kept (row := none) ⟨hb2.os, hb2.tape, hb2.output, hb2.size, fun j hj _ => hb2.block j hj⟩ (own_none _))
            have HBS3 := Lib.hid (Nat.le_trans HBS.out hb2.size)
            clear hb2
            cases b with
            | true =>
              obtain ⟨x1, hx1⟩ := hb1 rfl
              have hszz := congrArg List.length hx1
              have hm2 := HM.out.miss hx1
              have hme : strLen (.string l) + (intOf (.int .i64 (d1 : Int))).toNat < strLen (.string S) + (intOf (.int .i64 ((d1 : Int) + 1))).toNat := by
                simp only [strLen, intOf]
                simp only [List.length_cons, nl_len] at hszz
                omega
              clear hb1 hszz hx1
              have HBS4 := Lib.hid (show w.heap.size ≤ (w3.alloc (.cells #[.int .i64 4] 3)).heap.size by have := HBS3.out; simp; omega)
              have HM2 := Lib.hid hm2
              have HME := Lib.hid hme
              clear hm2 hme
              go_wp2_with (at_builtin; refine wpList_app_int rfl _ _ rfl w.heap.size (.slice sA sn sc) xs 4 w3.heap.size rfl (HO3.out.alloc _) rfl (Go.heap_alloc_new w3 _) HXL.out HBS4.out ?_)
              intro g7 c7 w7 hown7 hgr7 _
              have hown8 : w7.ownsRow w.heap.size 3 1 (.slice (some ⟨g7, 0, none⟩) (xs.length + 1) c7) (xs ++ [(4 : Int)]).length ((xs ++ [(4 : Int)]).map (Value.int .i64)) := by
                rw [List.map_append, List.length_append]; exact hown7
              have HO7 := Lib.hid hown8
              have HB7 := Lib.hid ((HB3.out.alloc HBS3.out _).grown hgr7 HBS4.out (fun q hq => (HO3.out.lt q hq).1))
              have HX7 := Lib.hid (show (xs ++ [(4 : Int)]).length ≤ a + 1 by have := HXS.out; simp; omega)
              clear hown7 hown8 hgr7 HO3 HB3
              go_wp2_with fail
              refine (cost_any 4 _).mono ?_
              rintro e w' ⟨rfl, rfl⟩
              go_wp2_with fail
              go_roundw
              case rel => exact ⟨_, _, c + 1, d1, a + 1, _, _, _, _, rfl, by first | rfl | go_num, by have := HCK.out; omega, rfl, by go_num, HM2.out, rfl, HO7.out, HX7.out, HB7.out⟩
              case measure => exact HME.out
            | false =>
              clear hb1
              go_upto_region 13 with fail
              go_region_held3 (fun X => True) (trivial) (fail)
              have HO3 := Lib.hid HO3.out.drew
              have HB3 := Lib.hid HB3.out.drew
              have HBS3 := Lib.hid (show w.heap.size ≤ w3.drew.heap.size from HBS3.out)
              have hm2 := HM.out.copy HSC.out HWN.out
              have hme : strLen (.string (S.extract 1 S.size)) + (intOf (.int .i64 ((d1 : Int) + 1))).toNat < strLen (.string S) + (intOf (.int .i64 ((d1 : Int) + 1))).toNat := by
                have hszz := congrArg List.length HSC.out
                simp only [strLen, intOf]
                simp only [List.length_cons, nl_len] at hszz
                omega
              go_upto_region 14 with fail
              generalize w3.drew = w4 at HO3 HB3 HBS3 ⊢
              have HBS4 := Lib.hid (show w.heap.size ≤ (w4.alloc (.cells #[.int .i64 0] 3)).heap.size by have := HBS3.out; simp; omega)
              have HM2 := Lib.hid hm2
              have HME := Lib.hid hme
              clear hm2 hme
              go_wp2_with (at_builtin; refine wpList_app_int rfl _ _ rfl w.heap.size (.slice sA sn sc) xs 0 w4.heap.size rfl (HO3.out.alloc _) rfl (Go.heap_alloc_new w4 _) HXL.out HBS4.out ?_)
              intro g7 c7 w7 hown7 hgr7 _
              have hown8 : w7.ownsRow w.heap.size 3 1 (.slice (some ⟨g7, 0, none⟩) (xs.length + 1) c7) (xs ++ [(0 : Int)]).length ((xs ++ [(0 : Int)]).map (Value.int .i64)) := by
                rw [List.map_append, List.length_append]; exact hown7
              have HO7 := Lib.hid hown8
              have HB7 := Lib.hid ((HB3.out.alloc HBS3.out _).grown hgr7 HBS4.out (fun q hq => (HO3.out.lt q hq).1))
              have HX7 := Lib.hid (show (xs ++ [(0 : Int)]).length ≤ a + 1 by have := HXS.out; simp; omega)
              clear hown7 hown8 hgr7 HO3 HB3
              go_wp2_with fail
              refine (cost_any 0 _).mono ?_
              rintro e w' ⟨rfl, rfl⟩
              go_wp2_with fail
              go_roundw
              case rel => exact ⟨_, _, c, d1 + 1, a + 1, _, _, _, _, rfl, by first | rfl | go_num, by have := HCK.out; omega, rfl, by go_num, HM2.out, rfl, HO7.out, HX7.out, HB7.out⟩
              case measure => exact HME.out
          · clear hj0
            have ixk : ∀ X, (Instr.index 127 (.agg #[.string (S.extract 0 1), .string ⟨#[]⟩, .string ⟨#[46, 46]⟩, .string ⟨#[45]⟩, .string ⟨#[]⟩, .string ⟨#[32]⟩]) (.int .i64 5)).run Try.prog X = .ok (.string (⟨#[32]⟩)) X := fun _ => by kernel_rfl
            have p1 : (1 : Int) ≤ (S.size : Int) := by omega
            go_wp2_with fail
            clear ixk
            refine (step5_any S h0 _).mono ?_
            rintro e w3 ⟨l, r, b, rfl, hb1, hb2⟩
            have HB3 := Lib.hid (HBE.out.trans (hb2.mono HBE.out.size))
            have HO3 := Lib.hid (HO.out.kept (row := none) ⟨hb2.os, hb2.tape, hb2.output, hb2.size, fun j hj _ => hb2.block j hj⟩ (own_none _))
            have HBS3 := Lib.hid (Nat.le_trans HBS.out hb2.size)
            clear hb2
            cases b with
            | true =>

              have hszz := congrArg List.length (hb1 rfl)
              have hm2 := HM.out.gap (hb1 rfl)
              have hme : strLen (.string l) + (intOf (.int .i64 (d1 : Int))).toNat < strLen (.string S) + (intOf (.int .i64 ((d1 : Int) + 1))).toNat := by
                simp only [strLen, intOf]
                simp only [List.length_cons, nl_len] at hszz
                omega
              clear hb1 hszz
              have HBS4 := Lib.hid (show w.heap.size ≤ (w3.alloc (.cells #[.int .i64 5] 3)).heap.size by have := HBS3.out; simp; omega)
              have HM2 := Lib.hid hm2
              have HME := Lib.hid hme
              clear hm2 hme
              go_wp2_with (at_builtin; refine wpList_app_int rfl _ _ rfl w.heap.size (.slice sA sn sc) xs 5 w3.heap.size rfl (HO3.out.alloc _) rfl (Go.heap_alloc_new w3 _) HXL.out HBS4.out ?_)
              intro g7 c7 w7 hown7 hgr7 _
              have hown8 : w7.ownsRow w.heap.size 3 1 (.slice (some ⟨g7, 0, none⟩) (xs.length + 1) c7) (xs ++ [(5 : Int)]).length ((xs ++ [(5 : Int)]).map (Value.int .i64)) := by
                rw [List.map_append, List.length_append]; exact hown7
              have HO7 := Lib.hid hown8
              have HB7 := Lib.hid ((HB3.out.alloc HBS3.out _).grown hgr7 HBS4.out (fun q hq => (HO3.out.lt q hq).1))
              have HX7 := Lib.hid (show (xs ++ [(5 : Int)]).length ≤ a + 1 by have := HXS.out; simp; omega)
              clear hown7 hown8 hgr7 HO3 HB3
              go_wp2_with fail
              refine (cost_any 5 _).mono ?_
              rintro e w' ⟨rfl, rfl⟩
              go_wp2_with fail
              go_roundw
              case rel => exact ⟨_, _, c + 1, d1, a + 1, _, _, _, _, rfl, by first | rfl | go_num, by have := HCK.out; omega, rfl, by go_num, HM2.out, rfl, HO7.out, HX7.out, HB7.out⟩
              case measure => exact HME.out
            | false =>
              clear hb1
              go_upto_region 13 with fail
              go_region_held3 (fun X => True) (trivial) (fail)
              have HO3 := Lib.hid HO3.out.drew
              have HB3 := Lib.hid HB3.out.drew
              have HBS3 := Lib.hid (show w.heap.size ≤ w3.drew.heap.size from HBS3.out)
              have hm2 := HM.out.copy HSC.out HWN.out
              have hme : strLen (.string (S.extract 1 S.size)) + (intOf (.int .i64 ((d1 : Int) + 1))).toNat < strLen (.string S) + (intOf (.int .i64 ((d1 : Int) + 1))).toNat := by
                have hszz := congrArg List.length HSC.out
                simp only [strLen, intOf]
                simp only [List.length_cons, nl_len] at hszz
                omega
              go_upto_region 14 with fail
              generalize w3.drew = w4 at HO3 HB3 HBS3 ⊢
              have HBS4 := Lib.hid (show w.heap.size ≤ (w4.alloc (.cells #[.int .i64 0] 3)).heap.size by have := HBS3.out; simp; omega)
              have HM2 := Lib.hid hm2
              have HME := Lib.hid hme
              clear hm2 hme
              go_wp2_with (at_builtin; refine wpList_app_int rfl _ _ rfl w.heap.size (.slice sA sn sc) xs 0 w4.heap.size rfl (HO3.out.alloc _) rfl (Go.heap_alloc_new w4 _) HXL.out HBS4.out ?_)
              intro g7 c7 w7 hown7 hgr7 _
              have hown8 : w7.ownsRow w.heap.size 3 1 (.slice (some ⟨g7, 0, none⟩) (xs.length + 1) c7) (xs ++ [(0 : Int)]).length ((xs ++ [(0 : Int)]).map (Value.int .i64)) := by
                rw [List.map_append, List.length_append]; exact hown7
              have HO7 := Lib.hid hown8
              have HB7 := Lib.hid ((HB3.out.alloc HBS3.out _).grown hgr7 HBS4.out (fun q hq => (HO3.out.lt q hq).1))
              have HX7 := Lib.hid (show (xs ++ [(0 : Int)]).length ≤ a + 1 by have := HXS.out; simp; omega)
              clear hown7 hown8 hgr7 HO3 HB3
              go_wp2_with fail
              refine (cost_any 0 _).mono ?_
              rintro e w' ⟨rfl, rfl⟩
              go_wp2_with fail
              go_roundw
              case rel => exact ⟨_, _, c, d1 + 1, a + 1, _, _, _, _, rfl, by first | rfl | go_num, by have := HCK.out; omega, rfl, by go_num, HM2.out, rfl, HO7.out, HX7.out, HB7.out⟩
              case measure => exact HME.out
      · have q3 : ((x % 3 : Int) == 0) = false := by simpa using h3
        clear h3
        have ixk : ∀ X, (Instr.index 127 (.agg #[.string (S.extract 0 1), .string ⟨#[]⟩, .string ⟨#[46, 46]⟩, .string ⟨#[45]⟩, .string ⟨#[]⟩, .string ⟨#[32]⟩]) (.int .i64 0)).run Try.prog X = .ok (.string (S.extract 0 1)) X := fun _ => by kernel_rfl
        have p1 : (1 : Int) ≤ (S.size : Int) := by omega
        go_wp2_with fail
        clear ixk
        refine (step0_any S h0 _).mono ?_
        rintro e w3 ⟨l, r, b, rfl, hb1, hb2⟩
        have HB3 := Lib.hid (HBE.out.trans (hb2.mono HBE.out.size))
        have HO3 := Lib.hid (HO.out.kept (row := none) ⟨hb2.os, hb2.tape, hb2.output, hb2.size, fun j hj _ => hb2.block j hj⟩ (own_none _))
        have HBS3 := Lib.hid (Nat.le_trans HBS.out hb2.size)
        clear hb2
        cases b with
        | true =>
          obtain ⟨x1, hx1⟩ := hb1 rfl
          have hx2 : x1 = x0 := by have := hx1.symm.trans HSC.out; simp at this; exact this.1
          subst hx2
          have hszz := congrArg List.length hx1
          have hm2 := HM.out.copy hx1 HWN.out
          have hme : strLen (.string l) + (intOf (.int .i64 (d : Int))).toNat < strLen (.string S) + (intOf (.int .i64 (d : Int))).toNat := by
            simp only [strLen, intOf]
            simp only [List.length_cons, nl_len] at hszz
            omega
          clear hb1 hszz hx1
          have HBS4 := Lib.hid (show w.heap.size ≤ (w3.alloc (.cells #[.int .i64 0] 3)).heap.size by have := HBS3.out; simp; omega)
          have HM2 := Lib.hid hm2
          have HME := Lib.hid hme
          clear hm2 hme
          go_wp2_with (at_builtin; refine wpList_app_int rfl _ _ rfl w.heap.size (.slice sA sn sc) xs 0 w3.heap.size rfl (HO3.out.alloc _) rfl (Go.heap_alloc_new w3 _) HXL.out HBS4.out ?_)
          intro g7 c7 w7 hown7 hgr7 _
          have hown8 : w7.ownsRow w.heap.size 3 1 (.slice (some ⟨g7, 0, none⟩) (xs.length + 1) c7) (xs ++ [(0 : Int)]).length ((xs ++ [(0 : Int)]).map (Value.int .i64)) := by
            rw [List.map_append, List.length_append]; exact hown7
          have HO7 := Lib.hid hown8
          have HB7 := Lib.hid ((HB3.out.alloc HBS3.out _).grown hgr7 HBS4.out (fun q hq => (HO3.out.lt q hq).1))
          have HX7 := Lib.hid (show (xs ++ [(0 : Int)]).length ≤ a + 1 by have := HXS.out; simp; omega)
          clear hown7 hown8 hgr7 HO3 HB3
          go_wp2_with fail
          refine (cost_any 0 _).mono ?_
          rintro e w' ⟨rfl, rfl⟩
          go_wp2_with fail
          go_roundw
          case rel => exact ⟨_, _, c, d, a + 1, _, _, _, _, rfl, by first | rfl | go_num, by have := HCK.out; omega, rfl, by go_num, HM2.out, rfl, HO7.out, HX7.out, HB7.out⟩
          case measure => exact HME.out
        | false =>
          clear hb1
          go_upto_region 13 with fail
          go_region_held3 (fun X => True) (trivial) (fail)
          have HO3 := Lib.hid HO3.out.drew
          have HB3 := Lib.hid HB3.out.drew
          have HBS3 := Lib.hid (show w.heap.size ≤ w3.drew.heap.size from HBS3.out)
          have hm2 := HM.out.copy HSC.out HWN.out
          have hme : strLen (.string (S.extract 1 S.size)) + (intOf (.int .i64 (d : Int))).toNat < strLen (.string S) + (intOf (.int .i64 (d : Int))).toNat := by
            have hszz := congrArg List.length HSC.out
            simp only [strLen, intOf]
            simp only [List.length_cons, nl_len] at hszz
            omega
          go_upto_region 14 with fail
          generalize w3.drew = w4 at HO3 HB3 HBS3 ⊢
          have HBS4 := Lib.hid (show w.heap.size ≤ (w4.alloc (.cells #[.int .i64 0] 3)).heap.size by have := HBS3.out; simp; omega)
          have HM2 := Lib.hid hm2
          have HME := Lib.hid hme
          clear hm2 hme
          go_wp2_with (at_builtin; refine wpList_app_int rfl _ _ rfl w.heap.size (.slice sA sn sc) xs 0 w4.heap.size rfl (HO3.out.alloc _) rfl (Go.heap_alloc_new w4 _) HXL.out HBS4.out ?_)
          intro g7 c7 w7 hown7 hgr7 _
          have hown8 : w7.ownsRow w.heap.size 3 1 (.slice (some ⟨g7, 0, none⟩) (xs.length + 1) c7) (xs ++ [(0 : Int)]).length ((xs ++ [(0 : Int)]).map (Value.int .i64)) := by
            rw [List.map_append, List.length_append]; exact hown7
          have HO7 := Lib.hid hown8
          have HB7 := Lib.hid ((HB3.out.alloc HBS3.out _).grown hgr7 HBS4.out (fun q hq => (HO3.out.lt q hq).1))
          have HX7 := Lib.hid (show (xs ++ [(0 : Int)]).length ≤ a + 1 by have := HXS.out; simp; omega)
          clear hown7 hown8 hgr7 HO3 HB3
          go_wp2_with fail
          refine (cost_any 0 _).mono ?_
          rintro e w' ⟨rfl, rfl⟩
          go_wp2_with fail
          go_roundw
          case rel => exact ⟨_, _, c, d, a + 1, _, _, _, _, rfl, by first | rfl | go_num, by have := HCK.out; omega, rfl, by go_num, HM2.out, rfl, HO7.out, HX7.out, HB7.out⟩
          case measure => exact HME.out
end Go.Proofs.Ytkloaeaepjoijaa
